/- rebuild: what a check without a fault says. -/
import Derived.Test.YtijeabhfddaoaaaR11b
import Derived.Test.YtijeabhfddaoaaaRh
namespace Go.Proofs.Ytijeabhfddaoaaa
set_option linter.unusedVariables false
open Go.RowKit Go.Proofs.YtijeabhfddaoaaaW.PrintWords Go.Proofs.Sh

theorem chE_ok {p : Pl} (h : p.Ok) {n : Nat} (hn : n ≤ 240) {who : List Int} {sh : List (List F)} (hc : chE p n who sh = 0) :
    (∀ i ∈ who, 1 ≤ i ∧ i ≤ p.N) ∧ who.Nodup ∧ p.T + p.L ≤ (who.length : Int) ∧ sh.length = who.length ∧ ∀ r ∈ sh, r.length = F.nS p.L.toNat n := by
  have hn0 : 0 ≤ (n : Int) ∧ (n : Int) ≤ 240 := by omega
  have h1 : who.any (badR p) = false := by
    cases hb : who.any (badR p) with
    | false => rfl
    | true => rw [chE_any hn0 hb] at hc; cases hc
  have h2 : who.Nodup := Classical.byContradiction fun g => by rw [chE_dup hn0 h1 g] at hc; cases hc
  have h3 : ¬ (who.length : Int) < p.T + p.L := fun g => by rw [chE_few hn0 h1 h2 g] at hc; cases hc
  have h4 : ((sh.length : Int) != (who.length : Int)) = false := by
    cases hb : ((sh.length : Int) != (who.length : Int)) with
    | false => rfl
    | true => rw [chE_len hn0 h1 h2 h3 hb] at hc; cases hc
  have h5 : sh.any (bad3 (stripesOf p n)) = false := by
    cases hb : sh.any (bad3 (stripesOf p n)) with
    | false => rfl
    | true => rw [chE_row hn0 h1 h2 h3 h4 hb] at hc; cases hc
  refine ⟨fun i hi => ?_, h2, by omega, ?_, fun r hr => ?_⟩
  · have h6 : badR p i = false := by
      cases hb : badR p i with
      | false => rfl
      | true => have := List.any_eq_true.2 ⟨i, hi, hb⟩; rw [h1] at this; exact absurd this (by decide)
    unfold badR at h6
    simpa using h6
  · have : (sh.length : Int) = (who.length : Int) := by simpa using h4
    omega
  · have := bad3_all h5 r hr
    rw [stripes_nat h n hn] at this
    omega
theorem map_take_nodup {p : Pl} (h : p.Ok) {who : List Int} (K : Nat) (hg : ∀ i ∈ who, 1 ≤ i ∧ i ≤ p.N) (hd : who.Nodup) : ((who.take K).map point).Nodup :=
  (nodup_points (fun i hi => by
    have := hg i (List.mem_of_mem_take hi)
    have := h.nl; have := h.l
    omega)).2 (hd.sublist (List.take_sublist _ _))
end Go.Proofs.Ytijeabhfddaoaaa
