/- The laws of the shift: plain, no Go in sight. -/
import Derived.Test.YtijeabhfddaoaaaM8
namespace Go.Proofs.Sh
open F
theorem fil_eq (T : Int) (zs : List Int) (hl : (zs.length : Int) ≤ T) : ∀ l, fil T zs l = zs ++ (l.filter (fun i => decide (i ∉ zs))).take (T.toNat - zs.length) := snoc_ind (by simp [fil]) (fun l i ih => by
  rw [fil_snoc, List.filter_append]
  by_cases hi : i ∈ zs
  · rw [if_neg (fun e => e.2 hi), ih]
    have : List.filter (fun i => decide (i ∉ zs)) [i] = [] := by simp [hi]
    rw [this, List.append_nil]
  · have h1 : List.filter (fun i => decide (i ∉ zs)) [i] = [i] := by simp [hi]
    rw [h1]
    have hlen : ((fil T zs l).length : Int) = zs.length + min (T.toNat - zs.length) (l.filter (fun i => decide (i ∉ zs))).length := by
      rw [ih, List.length_append, List.length_take]; omega
    by_cases h2 : (l.filter (fun i => decide (i ∉ zs))).length < T.toNat - zs.length
    · rw [if_pos ⟨by omega, hi⟩, ih, List.take_of_length_le (Nat.le_of_lt h2), List.take_of_length_le (by rw [List.length_append, List.length_singleton]; omega), List.append_assoc]
    · rw [if_neg (fun e => by have := e.1; omega), ih, List.take_append_of_le_length (by omega)])
theorem getD_left {α : Type} (a b : List α) (z : α) (k : Nat) (h : k < a.length) : (a ++ b).getD k z = a.getD k z := by
  rw [List.getD_eq_getElem?_getD, List.getElem?_append_left h, List.getD_eq_getElem?_getD]
theorem getD_right {α : Type} (a b : List α) (z : α) (k : Nat) : (a ++ b).getD (a.length + k) z = b.getD k z := by
  rw [List.getD_eq_getElem?_getD, List.getElem?_append_right (by omega), List.getD_eq_getElem?_getD, Nat.add_sub_cancel_left]
theorem sh_lt (p : Pl) (h : p.Ok) (hK : p.T + p.L < 255) (zs : List Int) (hl : (zs.length : Int) ≤ p.T) : (shXs p zs).length < 255 := by
  have := shXs_len p h zs hl
  omega
/-- It has the bytes. -/
theorem sh_secret (p : Pl) (h : p.Ok) (hK : p.T + p.L < 255) (d : List F) (zs : List Int) (hl : (zs.length : Int) ≤ p.T) (hn : zs.Nodup) (hz : ∀ i ∈ zs, 1 ≤ i ∧ i ≤ p.N) (j : Nat) (hj : j < (secretsAt p).length) : ev ((secretsAt p).getD j 0) (shOf p d zs) = d.getD j 0 := by
  have hj2 : j < (shXs p zs).length := by rw [shXs, List.length_append]; omega
  have := thr_at (szd d (shXs p zs).length) (shXs_nodup p h zs hn hz) j hj2 (sh_lt p h hK zs hl)
  rw [szd_at _ _ _ hj2] at this
  rw [← this, shOf]
  congr 1
  exact (getD_left _ _ _ _ hj).symm
/-- It is 0 at all that it is filled with. -/
theorem sh_fil (p : Pl) (h : p.Ok) (hK : p.T + p.L < 255) (d : List F) (zs : List Int) (hd : (d.length : Int) = p.L) (hl : (zs.length : Int) ≤ p.T) (hn : zs.Nodup) (hz : ∀ i ∈ zs, 1 ≤ i ∧ i ≤ p.N) (i : Int) (hi : i ∈ fil p.T zs (allOf p)) : ev (point i) (shOf p d zs) = 0 := by
  obtain ⟨k, hk, rfl⟩ := List.mem_iff_getElem.1 hi
  have hs := secrets_len p
  have hj2 : (secretsAt p).length + k < (shXs p zs).length := by rw [shXs, List.length_append, List.length_map]; omega
  have := thr_at (szd d (shXs p zs).length) (shXs_nodup p h zs hn hz) _ hj2 (sh_lt p h hK zs hl)
  rw [szd_at _ _ _ hj2] at this
  have e : d.getD ((secretsAt p).length + k) 0 = 0 := by
    rw [List.getD_eq_getElem?_getD, List.getElem?_eq_none (by omega)]
    rfl
  rw [e] at this
  rw [← this, shOf]
  congr 1
  rw [shXs, getD_right]
  simp [List.getD_eq_getElem?_getD, hk]
theorem sh_zero (p : Pl) (h : p.Ok) (hK : p.T + p.L < 255) (d : List F) (zs : List Int) (hd : (d.length : Int) = p.L) (hl : (zs.length : Int) ≤ p.T) (hn : zs.Nodup) (hz : ∀ i ∈ zs, 1 ≤ i ∧ i ≤ p.N) (i : Int) (hi : i ∈ zs) : ev (point i) (shOf p d zs) = 0 := by
  refine sh_fil p h hK d zs hd hl hn hz i ?_
  obtain ⟨r, hr⟩ := fil_pre p.T zs (allOf p)
  rw [hr]
  exact List.mem_append.2 (.inl hi)
theorem sh_len (p : Pl) (d : List F) (zs : List Int) : (shOf p d zs).length = (shXs p zs).length := thr_len _ _ _
/-- The order is of no matter. -/
theorem sh_turn (p : Pl) (h : p.Ok) (hK : p.T + p.L < 255) (d : List F) (zs ys : List Int) (hd : (d.length : Int) = p.L) (hl : (zs.length : Int) ≤ p.T) (hn : zs.Nodup) (hz : ∀ i ∈ zs, 1 ≤ i ∧ i ≤ p.N) (hy : ys.length = zs.length) (hyn : ys.Nodup) (hm : ∀ i, i ∈ ys ↔ i ∈ zs) : shOf p d ys = shOf p d zs := by
  have hly : (ys.length : Int) ≤ p.T := by omega
  have hzy : ∀ i ∈ ys, 1 ≤ i ∧ i ≤ p.N := fun i hi => hz i ((hm i).1 hi)
  have l1 := shXs_len p h zs hl
  have l2 := shXs_len p h ys hly
  have e1 := fil_eq p.T zs hl (allOf p)
  have e2 := fil_eq p.T ys hly (allOf p)
  have hf : (fun i => decide (i ∉ ys)) = (fun i => decide (i ∉ zs)) := by funext i; simp only [hm i]
  rw [hf, hy] at e2
  have hin : ∀ i, i ∈ fil p.T ys (allOf p) → i ∈ fil p.T zs (allOf p) := fun i hi => by
    rw [e2] at hi
    rw [e1]
    rcases List.mem_append.1 hi with hi | hi
    · exact List.mem_append.2 (.inl ((hm i).1 hi))
    · exact List.mem_append.2 (.inr hi)
  apply ext_at (by rw [sh_len, sh_len]; omega)
  intro k _
  refine thr_uniq (shXs_nodup p h ys hyn hzy) (sh_lt p h hK ys hly) (by rw [sh_len]; omega) (fun j hj => ?_) k
  rw [szd_at _ _ _ hj]
  by_cases hjs : j < (secretsAt p).length
  · rw [shXs, getD_left _ _ _ _ hjs]
    exact sh_secret p h hK d zs hl hn hz j hjs
  · obtain ⟨m, rfl⟩ : ∃ m, j = (secretsAt p).length + m := ⟨j - (secretsAt p).length, by omega⟩
    have hs := secrets_len p
    have hm2 : m < (fil p.T ys (allOf p)).length := by rw [shXs, List.length_append, List.length_map] at hj; omega
    rw [shXs, getD_right]
    have e : ((fil p.T ys (allOf p)).map point).getD m 0 = point ((fil p.T ys (allOf p))[m]) := by simp [List.getD_eq_getElem?_getD, hm2]
    rw [e, sh_fil p h hK d zs hd hl hn hz _ (hin _ (List.getElem_mem hm2)), List.getD_eq_getElem?_getD, List.getElem?_eq_none (by omega)]
    rfl
end Go.Proofs.Sh
