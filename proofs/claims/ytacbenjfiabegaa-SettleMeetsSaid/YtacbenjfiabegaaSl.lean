/- The walks of package slices at ints and rows: Contains, ContainsFunc. -/
import Derived.Test.YtacbenjfiabegaaK6
import Derived.Test.YtacbenjfiabegaaPlan2
namespace Go.Proofs.Ytacbenjfiabegaa
set_option linter.unusedVariables false
open Go.RowKit Go.Proofs.YtacbenjfiabegaaW.PrintWords Go.Proofs.Sh

theorem ri_C {w : World} {A : Option Addr} {n c : Nat} {l : List Int} (h : Ri w (.slice A n c) l) : (Kd.int .i64).C w A l.length l := rk_C h
theorem ri_len {w : World} {A : Option Addr} {n : Nat} {l : List Int} (h : (Kd.int .i64).C w A n l) : n ≤ 9223372036854775807 := h.2.1
set_option maxRecDepth 100000 in
set_option maxHeartbeats 1600000 in
theorem iIndex_c (v : Value) (l : List Int) (x : Int) (w : World) (hv : Ri w v l) :
   Calls Try.prog 99 #[v, .int .i64 x] w fun e w' => (∃ z : Int, e = .returned (.int .i64 z) ∧ (0 ≤ z ↔ x ∈ l) ∧ -1 ≤ z) ∧ w = w' := by
  obtain ⟨A, c, rfl, hc, hr⟩ := hv
  have hl := ri_len hr
  go_enter Try.func99, Try.ntmps99
  go_wp2
  go_loop [8] (fun i => ∃ k : Nat, k ≤ l.length ∧ i = .int .i64 k ∧ Hid (x ∉ l.take k)) (fun i => l.length - (intOf i).toNat)
  case atStart => exact ⟨0, by omega, rfl, Lib.hid (by simp)⟩
  case round =>
    obtain ⟨k, hk, rfl, hn⟩ := hrel
    by_cases hlt : k < l.length
    · obtain ⟨ad, rfl, c1⟩ := ki_at hr k hlt
      have hst := take_snoc' l k 0 hlt
      by_cases hcx : l.getD k 0 = x
      · have t2 : (x == l.getD k 0) = true := by rw [hcx]; simp
        have hi : Hid (0 ≤ (k : Int) ↔ x ∈ l) := Lib.hid (iff_of_true (by omega) (by
          refine List.mem_of_mem_take (i := k + 1) ?_
          rw [hst, hcx]; exact List.mem_append.2 (.inr (List.mem_singleton_self _))))
        generalize l.getD k 0 = a at *
        clear hcx hst
        go_wp2
        go_ret
        exact ⟨⟨_, rfl, hi.out, by omega⟩, rfl⟩
      · have t2 : (x == l.getD k 0) = false := beq_eq_false_iff_ne.2 (fun e => hcx e.symm)
        have hi : Hid (x ∉ l.take (k + 1)) := Lib.hid (by
          rw [hst]
          exact fun h => (List.mem_append.1 h).elim hn.out (fun h => hcx (List.mem_singleton.1 h).symm))
        generalize l.getD k 0 = a at *
        clear hcx hst
        go_wp2
        exact ⟨⟨k + 1, by omega, by go_num, hi⟩, by simp [intOf]; try omega⟩
    · obtain rfl : k = l.length := by omega
      have h1 := hn.out
      rw [List.take_length] at h1
      have h2 := Lib.hid h1
      clear h1
      go_wp2
      go_ret
      exact ⟨⟨-1, rfl, iff_of_false (by omega) h2.out, by omega⟩, rfl⟩
set_option maxRecDepth 100000 in
set_option maxHeartbeats 1600000 in
theorem iContains_c (v : Value) (l : List Int) (x : Int) (w : World) (hv : Ri w v l) :
   Calls Try.prog 78 #[v, .int .i64 x] w fun e w' => e = .returned (.bool (decide (x ∈ l))) ∧ w = w' := by
  go_enter Try.func78, Try.ntmps78
  go_wp2_with fail
  refine (iIndex_c _ _ x _ hv).mono ?_
  rintro e w_ ⟨⟨z, rfl, hz, _⟩, rfl⟩
  have hz : Hid (decide (0 ≤ z) = decide (x ∈ l)) := Lib.hid (decide_eq_decide.2 hz)
  go_wp2
  go_ret
  rw [← hz.out]
  exact ⟨rfl, rfl⟩
/-! ### ContainsFunc of rows -/
theorem any_take_succ {α : Type} (l : List α) (q : α → Bool) (z : α) (k : Nat) (h : k < l.length) : (l.take (k + 1)).any q = ((l.take k).any q || q (l.getD k z)) := by
  rw [take_snoc' l k z h, List.any_append]
  simp
end Go.Proofs.Ytacbenjfiabegaa
