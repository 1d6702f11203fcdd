/- What shares lead back to: plain laws for RebuildBack, RebuildTells, ZeroKeeps. -/
import Derived.Test.YtijeabhfddaoaaaDe
import Derived.Test.YtijeabhfddaoaaaRi
namespace Go.Proofs.Ytijeabhfddaoaaa
set_option linter.unusedVariables false
open Go.RowKit Go.Proofs.YtijeabhfddaoaaaW.PrintWords Go.Proofs.Sh

theorem map_nodup {who : List Int} (h : (who.map point).Nodup) : who.Nodup := List.Pairwise.of_map point (fun _ _ hne e => hne (congrArg point e)) h
theorem chE_good {p : Pl} (h : p.Ok) {n : Nat} (hn : n ≤ 240) {who : List Int} {sh : List (List F)} (hg : ∀ i ∈ who, 1 ≤ i ∧ i ≤ p.N) (hd : who.Nodup) (h3 : p.T + p.L ≤ (who.length : Int)) (h4 : sh.length = who.length) (h5 : ∀ r ∈ sh, r.length = F.nS p.L.toNat n) : chE p n who sh = 0 := by
  refine chE_zero ⟨by omega, by omega⟩ ?_ hd (by omega) ?_ ?_
  · refine List.any_eq_false.2 fun i hi => ?_
    have := hg i hi
    simp [badR, this]
  · rw [h4]; simp
  · refine List.any_eq_false.2 fun r hr => ?_
    rw [stripes_nat h n hn]
    simp [bad3, h5 r hr]
theorem polys_deg (p : Pl) (h : p.Ok) (K : Nat) (eK : p.T + p.L = K) (b tape : List F) (hlen : p.T.toNat * F.nS p.L.toNat b.length ≤ tape.length) (j : Nat) (hj : j < F.nS p.L.toNat b.length) : ((polysOf p b tape).getD j []).length ≤ K := by
  have hT : 1 ≤ p.T.toNat := by have := h.t; omega
  have h1 : (j + 1) * p.T.toNat ≤ tape.length := Nat.le_trans (by rw [Nat.mul_comm]; exact Nat.mul_le_mul_left _ hj) hlen
  have h2 := F.tp_len p.T.toNat tape j h1
  rw [polys_at p b tape j hj, F.dpoly_len _ _ _ (List.ne_nil_of_length_pos (by omega)), h2, sec_len10]
  have := h.t; have := h.l; omega
theorem polys_sec (p : Pl) (h : p.Ok) (b tape : List F) (j : Nat) (hj : j < F.nS p.L.toNat b.length) (k : Nat) (hk : k < p.L.toNat) : F.ev ((secretsAt p).getD k 0) ((polysOf p b tape).getD j []) = (F.rowOf p.L.toNat b j).getD k 0 := by
  rw [polys_at p b tape j hj]
  exact F.dpoly_at _ _ (secrets_nodup10 p h) (L_small p h) k (by rw [sec_len10]; exact hk)
/-- Shares that are values of polynomials through the blob's stripes: nothing is wrong with them, they lead back to it, they agree. -/
theorem back_all (p : Pl) (h : p.Ok) (K : Nat) (eK : p.T + p.L = K) (hK : K < 255) (b : List F) (hb : b.length ≤ 240) (who : List Int) (hg : ∀ i ∈ who, 1 ≤ i ∧ i ≤ p.N) (hd : (who.map point).Nodup) (hKw : K ≤ who.length)
    (E : Nat → List F) (hE : ∀ j, j < F.nS p.L.toNat b.length → (E j).length ≤ K) (hsec : ∀ j, j < F.nS p.L.toNat b.length → ∀ k, k < p.L.toNat → F.ev ((secretsAt p).getD k 0) (E j) = (F.rowOf p.L.toNat b j).getD k 0)
    (sh : List (List F)) (hl : sh.length = who.length) (hrl : ∀ r ∈ sh, r.length = F.nS p.L.toNat b.length) (hat : ∀ k, k < who.length → ∀ j, j < F.nS p.L.toNat b.length → (sh.getD k []).getD j 0 = F.ev (point (who.getD k 0)) (E j)) :
    chE p b.length who sh = 0 ∧ F.joinOf p.L.toNat (rowsOf ((who.take K).map point) (secretsAt p) (sh.take K) (F.nS p.L.toNat b.length)) b.length = b ∧ agr ((who.take K).map point) (who.map point) K sh (F.nS p.L.toNat b.length) := by
  have hL : 0 < p.L.toNat := by have := h.l; omega
  obtain ⟨h1, h2⟩ := F.back_rows (secretsAt p) (who.map point) K (F.nS p.L.toNat b.length) (by rw [List.length_map]; exact hKw) hK (hd.sublist (List.take_sublist _ _)) E hE sh (by rw [List.length_map]; exact hl)
    (fun k hk j hj => by rw [List.length_map] at hk; rw [hat k hk j hj, map_getD who point 0 0 k hk])
  rw [← List.map_take] at h1 h2
  refine ⟨chE_good h hb hg (map_nodup hd) (by omega) hl hrl, ?_, h2⟩
  rw [h1]
  exact F.back_blob (secretsAt p) p.L.toNat hL (sec_len10 p) b E hsec
/-- A custodian's share among all. -/
theorem shs_at (p : Pl) (b tape : List F) (i : Int) (hi : 1 ≤ i) : shs p b tape (i - 1).toNat = F.dshare (polysOf p b tape) (point i) := by
  unfold shs
  congr 2
  omega
end Go.Proofs.Ytijeabhfddaoaaa
