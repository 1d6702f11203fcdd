/- Masks: plain, no Go in sight. -/
import Derived.Test.YtijeabhfddaoaaaM7
namespace Go.Proofs.Sh
open F
/-- So many bytes. -/
def szd (l : List F) (n : Nat) : List F := (List.range n).map fun i => l.getD i 0
theorem szd_len (l : List F) (n : Nat) : (szd l n).length = n := by simp [szd]
theorem szd_at (l : List F) (n i : Nat) (h : i < n) : (szd l n).getD i 0 = l.getD i 0 := by simp [szd, List.getD_eq_getElem?_getD, h]
theorem szd_self (l : List F) : szd l l.length = l := by
  apply ext_at (szd_len _ _)
  intro k hk
  rw [szd_len] at hk
  exact szd_at l _ k hk
theorem szd_copy (l : List F) (n : Nat) : l.take (min l.length n) ++ (List.replicate n (0 : F)).drop (min l.length n) = szd l n := by
  apply ext_at
  · rw [szd_len, List.length_append, List.length_take, List.length_drop, List.length_replicate]; omega
  · intro k hk
    rw [List.length_append, List.length_take, List.length_drop, List.length_replicate] at hk
    show _ = (szd l n).getD k 0
    rw [szd_at l n k (by omega)]
    show (l.take _ ++ _).getD k 0 = _
    by_cases h : k < min l.length n
    · rw [List.getD_eq_getElem?_getD, List.getElem?_append_left (by rw [List.length_take]; omega), List.getElem?_take, if_pos h, List.getD_eq_getElem?_getD]
    · rw [List.getD_eq_getElem?_getD, List.getElem?_append_right (by rw [List.length_take]; omega), List.getElem?_drop, List.getElem?_replicate, if_pos (by rw [List.length_take]; omega)]
      rw [List.getD_eq_getElem?_getD, List.getElem?_eq_none (by omega)]
      rfl
theorem szd_snoc (l : List F) (n : Nat) : szd l (n + 1) = szd l n ++ [l.getD n 0] := by simp [szd, List.range_succ]
/-- Custodians, and others of l, till there are T. -/
def fil (T : Int) (zs l : List Int) : List Int := l.foldl (fun out i => if (out.length : Int) < T ∧ i ∉ zs then out ++ [i] else out) zs
theorem fil_snoc (T : Int) (zs l : List Int) (i : Int) : fil T zs (l ++ [i]) = if ((fil T zs l).length : Int) < T ∧ i ∉ zs then fil T zs l ++ [i] else fil T zs l := by
  unfold fil
  rw [List.foldl_append]
  rfl
theorem all_take_succ (p : Pl) (k : Nat) (h : k < p.N.toNat) : (allOf p).take (k + 1) = (allOf p).take k ++ [((k + 1 : Nat) : Int)] := by
  have hl : k < (allOf p).length := by rw [all_len]; exact h
  rw [List.take_succ_eq_append_getElem hl]
  simp [allOf]
theorem mem_all_take (p : Pl) (k : Nat) (x : Int) : x ∈ (allOf p).take k → 1 ≤ x ∧ x ≤ k ∧ x ≤ p.N := by
  intro h
  obtain ⟨i, hi, rfl⟩ := List.mem_iff_getElem.1 h
  rw [List.length_take, all_len] at hi
  simp only [List.getElem_take, allOf, List.getElem_map, List.getElem_range]
  omega
theorem fil_pre (T : Int) (zs : List Int) : ∀ l, ∃ r, fil T zs l = zs ++ r := snoc_ind ⟨[], by simp [fil]⟩ (fun l i ⟨r, h⟩ => by
  rw [fil_snoc]
  split
  · exact ⟨r ++ [i], by rw [h, List.append_assoc]⟩
  · exact ⟨r, h⟩)
/-- What stands at the end is as it ought to be. -/
theorem fil_ok (p : Pl) (zs : List Int) (hn : zs.Nodup) (hz : ∀ i ∈ zs, 1 ≤ i ∧ i ≤ p.N) : ∀ k, k ≤ p.N.toNat → (fil p.T zs ((allOf p).take k)).Nodup ∧ (∀ i ∈ fil p.T zs ((allOf p).take k), (1 ≤ i ∧ i ≤ p.N) ∧ (i ∈ zs ∨ i ≤ k))
  | 0, _ => ⟨by simpa [fil] using hn, fun i hi => by
      have hi : i ∈ zs := by simpa [fil] using hi
      exact ⟨hz i hi, .inl hi⟩⟩
  | k + 1, hk => by
    obtain ⟨h1, h2⟩ := fil_ok p zs hn hz k (by omega)
    rw [all_take_succ p k (by omega), fil_snoc]
    split
    · rename_i hc
      refine ⟨?_, fun i hi => ?_⟩
      · rw [List.nodup_append]
        refine ⟨h1, by simp, fun a ha b hb e => ?_⟩
        rw [List.mem_singleton] at hb
        rcases (h2 a ha).2 with h | h
        · exact hc.2 (by rw [← hb, ← e]; exact h)
        · omega
      · rcases List.mem_append.1 hi with hi | hi
        · exact ⟨(h2 i hi).1, (h2 i hi).2.imp id (fun h => by omega)⟩
        · rw [List.mem_singleton] at hi
          subst hi
          exact ⟨by omega, .inr (Int.le_refl _)⟩
    · exact ⟨h1, fun i hi => ⟨(h2 i hi).1, (h2 i hi).2.imp id (fun h => by omega)⟩⟩
/-- It is T long, or all of l are in it. -/
theorem fil_len (T : Int) (zs : List Int) (hl : (zs.length : Int) ≤ T) : ∀ l, ((fil T zs l).length : Int) ≤ T ∧ (((fil T zs l).length : Int) < T → ∀ i ∈ l, i ∈ fil T zs l) := snoc_ind ⟨by simpa [fil] using hl, by simp⟩ (fun l i ⟨h1, h2⟩ => by
  rw [fil_snoc]
  obtain ⟨r, hr⟩ := fil_pre T zs l
  split
  · rename_i hc
    refine ⟨by rw [List.length_append, List.length_singleton]; omega, fun hlt j hj => ?_⟩
    rcases List.mem_append.1 hj with hj | hj
    · exact List.mem_append.2 (.inl (h2 hc.1 j hj))
    · exact List.mem_append.2 (.inr hj)
  · rename_i hc
    refine ⟨h1, fun hlt j hj => ?_⟩
    rcases List.mem_append.1 hj with hj | hj
    · exact h2 hlt j hj
    · rw [List.mem_singleton] at hj
      subst hj
      have : j ∈ zs := Classical.byContradiction fun h => hc ⟨hlt, h⟩
      rw [hr]
      exact List.mem_append.2 (.inl this))
theorem all_nodupI (p : Pl) : (allOf p).Nodup := by
  unfold allOf
  rw [List.nodup_iff_pairwise_ne, List.pairwise_map]
  exact (List.nodup_iff_pairwise_ne.1 List.nodup_range).imp (fun h e => h (by omega))
theorem sub_len {α : Type} [DecidableEq α] : ∀ (a b : List α), a.Nodup → (∀ x ∈ a, x ∈ b) → a.length ≤ b.length
  | [], b, _, _ => Nat.zero_le _
  | x :: a, b, hn, h => by
    have hx := h x (List.mem_cons_self ..)
    have hn2 := List.nodup_cons.1 hn
    have := sub_len a (b.erase x) hn2.2 (fun y hy => (List.mem_erase_of_ne (fun e => hn2.1 (by rw [← e]; exact hy))).2 (h y (List.mem_cons_of_mem _ hy)))
    rw [List.length_erase_of_mem hx] at this
    have := List.length_pos_of_mem hx
    simp only [List.length_cons]
    omega
theorem fil_full (p : Pl) (h : p.Ok) (zs : List Int) (hl : (zs.length : Int) ≤ p.T) : ((fil p.T zs (allOf p)).length : Int) = p.T := by
  obtain ⟨h1, h2⟩ := fil_len p.T zs hl (allOf p)
  refine Classical.byContradiction fun hne => ?_
  have := sub_len (allOf p) _ (all_nodupI p) (h2 (by omega))
  rw [all_len] at this
  have := h.l; have := h.tl; have := h.wn
  omega
/-- The places of a shift. -/
def shXs (p : Pl) (zs : List Int) : List F := secretsAt p ++ (fil p.T zs (allOf p)).map point
def shOf (p : Pl) (d : List F) (zs : List Int) : List F := thr (shXs p zs) (szd d (shXs p zs).length) (shXs p zs).length
theorem shXs_len (p : Pl) (h : p.Ok) (zs : List Int) (hl : (zs.length : Int) ≤ p.T) : (((shXs p zs).length : Nat) : Int) = p.T + p.L := by
  have := fil_full p h zs hl
  have := h.l
  rw [shXs, List.length_append, List.length_map, secrets_len]
  omega
theorem shXs_nodup (p : Pl) (h : p.Ok) (zs : List Int) (hn : zs.Nodup) (hz : ∀ i ∈ zs, 1 ≤ i ∧ i ≤ p.N) : (shXs p zs).Nodup := by
  have ha := fil_ok p zs hn hz p.N.toNat (Nat.le_refl _)
  rw [List.take_of_length_le (by rw [all_len]; exact Nat.le_refl _)] at ha
  have hu := points_unlike p h
  rw [List.nodup_append] at hu
  obtain ⟨u1, u2, u3⟩ := hu
  rw [shXs, List.nodup_append]
  have hm : ∀ i ∈ fil p.T zs (allOf p), i ∈ allOf p := fun i hi => by
    have h1 := (ha.2 i hi).1
    refine List.mem_map.2 ⟨(i - 1).toNat, List.mem_range.2 (by omega), by omega⟩
  refine ⟨u2, ?_, fun a h1 b h2 e => ?_⟩
  · rw [List.nodup_iff_pairwise_ne, List.pairwise_map]
    refine (List.nodup_iff_pairwise_ne.1 ha.1).imp_of_mem (fun {a b} h1 h2 hne e => hne ?_)
    have p1 := (ha.2 a h1).1
    have p2 := (ha.2 b h2).1
    have := h.nl; have := h.l
    unfold point at e
    rw [if_pos (by omega), if_pos (by omega)] at e
    have := F_of_inj (by omega) (by omega) e
    omega
  · obtain ⟨i, hi, rfl⟩ := List.mem_map.1 h2
    exact u3 _ (List.mem_map.2 ⟨i, hm i hi, rfl⟩) a h1 e.symm
/-- Divided by x + c, for each c. -/
def qts (xs p : List F) : List F := xs.foldl (fun p c => qt c p) p
theorem qts_snoc (xs p : List F) (c : F) : qts (xs ++ [c]) p = qt c (qts xs p) := by
  unfold qts
  rw [List.foldl_append]
  rfl
theorem qts_len (p : List F) : ∀ xs, (qts xs p).length = p.length - xs.length := snoc_ind rfl (fun xs c ih => by
  rw [qts_snoc, qt_len, ih, List.length_append, List.length_singleton]; omega)
/-- A mask added to a tape at a place; the first k bytes of it. -/
def apTo (t : List F) (a : Nat) (m : List F) (k : Nat) : List F := (List.range t.length).map fun j => t.getD j 0 + (if a ≤ j ∧ j < a + k then m.getD (j - a) 0 else 0)
def apM (t : List F) (a : Int) (m : List F) : List F := (List.range t.length).map fun j => t.getD j 0 + (if 0 ≤ a ∧ a ≤ j then m.getD (j - a.toNat) 0 else 0)
theorem apTo_len (t : List F) (a : Nat) (m : List F) (k : Nat) : (apTo t a m k).length = t.length := by simp [apTo]
theorem apM_len (t : List F) (a : Int) (m : List F) : (apM t a m).length = t.length := by simp [apM]
theorem apM_at (t : List F) (a : Int) (m : List F) (j : Nat) (h : j < t.length) : (apM t a m).getD j 0 = t.getD j 0 + (if 0 ≤ a ∧ a ≤ j then m.getD (j - a.toNat) 0 else 0) := by simp [apM, List.getD_eq_getElem?_getD, h]
theorem apTo_at (t : List F) (a : Nat) (m : List F) (k j : Nat) (h : j < t.length) : (apTo t a m k).getD j 0 = t.getD j 0 + (if a ≤ j ∧ j < a + k then m.getD (j - a) 0 else 0) := by simp [apTo, List.getD_eq_getElem?_getD, h]
theorem apTo_0 (t : List F) (a : Nat) (m : List F) : apTo t a m 0 = t := by
  apply ext_at (apTo_len _ _ _ _)
  intro j hj
  rw [apTo_len] at hj
  show (apTo t a m 0).getD j 0 = _
  rw [apTo_at t a m 0 j hj, if_neg (by omega), add_zero]
theorem apTo_set (t : List F) (a : Nat) (m : List F) (k : Nat) (h : a + k < t.length) : (apTo t a m k).set (a + k) ((apTo t a m k).getD (a + k) 0 + m.getD k 0) = apTo t a m (k + 1) := by
  apply ext_at (by rw [List.length_set, apTo_len, apTo_len])
  intro j hj
  rw [List.length_set, apTo_len] at hj
  rw [at_set _ _ _ (by rw [apTo_len]; exact h)]
  show _ = (apTo t a m (k + 1)).getD j 0
  rw [apTo_at t a m (k + 1) j hj, apTo_at t a m k (a + k) h]
  by_cases e : j = a + k
  · subst e
    rw [if_pos rfl, if_neg (by omega), if_pos (by omega), add_zero, Nat.add_sub_cancel_left]
  · rw [if_neg e]
    show (apTo t a m k).getD j 0 = _
    rw [apTo_at t a m k j hj]
    by_cases h1 : a ≤ j ∧ j < a + k
    · rw [if_pos h1, if_pos (by omega)]
    · rw [if_neg h1, if_neg (by omega)]
theorem apTo_all (t : List F) (a : Nat) (m : List F) : apTo t a m (min (t.length - a) m.length) = apM t a m := by
  apply ext_at (by rw [apTo_len, apM_len])
  intro j hj
  rw [apTo_len] at hj
  show (apTo _ _ _ _).getD j 0 = (apM t a m).getD j 0
  rw [apTo_at _ _ _ _ _ hj, apM_at _ _ _ _ hj]
  congr 1
  by_cases h1 : a ≤ j
  · by_cases h2 : j - a < m.length
    · rw [if_pos (by omega), if_pos (by omega)]; rfl
    · rw [if_neg (by omega), if_pos (by omega)]
      rw [List.getD_eq_getElem?_getD, List.getElem?_eq_none (by show m.length ≤ j - (a : Int).toNat; omega)]
      rfl
  · rw [if_neg (by omega), if_neg (by omega)]
theorem apM_out (t : List F) (a : Int) (m : List F) (h : a < 0 ∨ (t.length : Int) ≤ a) : apM t a m = t := by
  apply ext_at (apM_len _ _ _)
  intro j hj
  rw [apM_len] at hj
  show (apM t a m).getD j 0 = _
  rw [apM_at _ _ _ _ hj, if_neg (by omega), add_zero]
end Go.Proofs.Sh
