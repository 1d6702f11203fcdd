/- The walks of package slices at ints and rows: Contains, ContainsFunc. -/
import Derived.Test.YtijeabhfddaoaaaK6
import Derived.Test.YtijeabhfddaoaaaPlan2
namespace Go.Proofs.Ytijeabhfddaoaaa
set_option linter.unusedVariables false
open Go.RowKit Go.Proofs.YtijeabhfddaoaaaW.PrintWords Go.Proofs.Sh

theorem ri_C {w : World} {A : Option Addr} {n c : Nat} {l : List Int} (h : Ri w (.slice A n c) l) : (Kd.int .i64).C w A l.length l := rk_C h
theorem ri_len {w : World} {A : Option Addr} {n : Nat} {l : List Int} (h : (Kd.int .i64).C w A n l) : n ≤ 9223372036854775807 := h.2.1
set_option maxRecDepth 100000 in
set_option maxHeartbeats 1600000 in
theorem iIndex_c (v : Value) (l : List Int) (x : Int) (w : World) (hv : Ri w v l) :
   Calls Try.prog 230 #[v, .int .i64 x] w fun e w' => (∃ z : Int, e = .returned (.int .i64 z) ∧ (0 ≤ z ↔ x ∈ l) ∧ -1 ≤ z) ∧ w = w' := by
  obtain ⟨A, c, rfl, hc, hr⟩ := hv
  have hl := ri_len hr
  go_enter Try.func230, Try.ntmps230
  go_wp2
  go_loop [8] (fun i => ∃ k : Nat, k ≤ l.length ∧ i = .int .i64 k ∧ Hid (x ∉ l.take k)) (fun i => l.length - (intOf i).toNat)
  case atStart => exact ⟨0, by omega, rfl, Lib.hid (by simp)⟩
  case round =>
    obtain ⟨k, hk, rfl, hn⟩ := hrel
    by_cases hlt : k < l.length
    · obtain ⟨ad, rfl, c1⟩ := ki_at hr k hlt
      have hst := take_snoc' l k 0 hlt
      by_cases hcx : l.getD k 0 = x
      · have t2 : (x == l.getD k 0) = true := by rw [hcx]; simp
        have hi : Hid (0 ≤ (k : Int) ↔ x ∈ l) := Lib.hid (iff_of_true (by omega) (by
          refine List.mem_of_mem_take (i := k + 1) ?_
          rw [hst, hcx]; exact List.mem_append.2 (.inr (List.mem_singleton_self _))))
        generalize l.getD k 0 = a at *
        clear hcx hst
        go_wp2
        go_ret
        exact ⟨⟨_, rfl, hi.out, by omega⟩, rfl⟩
      · have t2 : (x == l.getD k 0) = false := beq_eq_false_iff_ne.2 (fun e => hcx e.symm)
        have hi : Hid (x ∉ l.take (k + 1)) := Lib.hid (by
          rw [hst]
          exact fun h => (List.mem_append.1 h).elim hn.out (fun h => hcx (List.mem_singleton.1 h).symm))
        generalize l.getD k 0 = a at *
        clear hcx hst
        go_wp2
        exact ⟨⟨k + 1, by omega, by go_num, hi⟩, by simp [intOf]; try omega⟩
    · obtain rfl : k = l.length := by omega
      have h1 := hn.out
      rw [List.take_length] at h1
      have h2 := Lib.hid h1
      clear h1
      go_wp2
      go_ret
      exact ⟨⟨-1, rfl, iff_of_false (by omega) h2.out, by omega⟩, rfl⟩
set_option maxRecDepth 100000 in
set_option maxHeartbeats 1600000 in
theorem iContains_c (v : Value) (l : List Int) (x : Int) (w : World) (hv : Ri w v l) :
   Calls Try.prog 210 #[v, .int .i64 x] w fun e w' => e = .returned (.bool (decide (x ∈ l))) ∧ w = w' := by
  go_enter Try.func210, Try.ntmps210
  go_wp2_with fail
  refine (iIndex_c _ _ x _ hv).mono ?_
  rintro e w_ ⟨⟨z, rfl, hz, _⟩, rfl⟩
  have hz : Hid (decide (0 ≤ z) = decide (x ∈ l)) := Lib.hid (decide_eq_decide.2 hz)
  go_wp2
  go_ret
  rw [← hz.out]
  exact ⟨rfl, rfl⟩
/-! ### ContainsFunc of rows -/
theorem any_take_succ {α : Type} (l : List α) (q : α → Bool) (z : α) (k : Nat) (h : k < l.length) : (l.take (k + 1)).any q = ((l.take k).any q || q (l.getD k z)) := by
  rw [take_snoc' l k z h, List.any_append]
  simp
set_option maxRecDepth 100000 in
set_option maxHeartbeats 1600000 in
theorem cfRows_join (c0 : Value) (q : List F → Bool) (v : Value) (l : List (List F)) (w : World) (hv : Rbb w v l) (hstep : ∀ u r, r ∈ l → Rb w u r → Calls Try.prog 166 #[u, c0] w fun e w' => e = .returned (.bool (q r)) ∧ w = w') :
   Calls Try.prog 165 #[v, .func (.func 166) #[] #[c0]] w fun e w' => e = .returned (.bool (l.any q)) ∧ w = w' := by
  obtain ⟨A, c, rfl, hc, hr⟩ := hv
  have hl : l.length ≤ 9223372036854775807 := hr.2.1
  replace hstep := Lib.hid hstep
  have hidx : Calls Try.prog 202 #[.slice A l.length c, .func (.func 166) #[] #[c0]] w fun e w' => (∃ z : Int, e = .returned (.int .i64 z) ∧ decide (0 ≤ z) = l.any q) ∧ w = w' := by
    go_enter Try.func202, Try.ntmps202
    go_wp2
    go_loop [5, 8] (fun _ i => ∃ k : Nat, k ≤ l.length ∧ i = .int .i64 k ∧ Hid ((l.take k).any q = false)) (fun _ i => l.length - (intOf i).toNat)
    case atStart => exact ⟨0, by omega, rfl, Lib.hid (by simp)⟩
    case round =>
      obtain ⟨k, hk, rfl, hn⟩ := hrel
      by_cases hlt : k < l.length
      · obtain ⟨ad, u, rfl, d0, hu⟩ := kbb_at hr k hlt
        have hm : Hid (l.getD k [] ∈ l) := Lib.hid (by rw [List.getD_eq_getElem?_getD, List.getElem?_eq_getElem hlt]; exact List.getElem_mem hlt)
        have HS := Lib.hid (any_take_succ l q [] k hlt)
        have HT : Hid (q (l.getD k []) = true → l.any q = true) := Lib.hid (fun e => List.any_eq_true.2 ⟨_, hm.out, e⟩)
        generalize l.getD k [] = r at *
        go_wp2_with fail
        refine (hstep.out u r hm.out hu).mono ?_
        rintro e w_ ⟨rfl, rfl⟩
        cases hq : q r with
        | true =>
          have h1 := HT.out hq
          rw [hq] at HS
          replace h1 := Lib.hid h1
          clear hq
          go_wp2
          go_ret
          exact ⟨⟨_, rfl, by rw [h1.out]; exact decide_eq_true (by omega)⟩, rfl⟩
        | false =>
          have hn2 : Hid ((l.take (k + 1)).any q = false) := Lib.hid (by rw [HS.out, hn.out, hq]; rfl)
          clear hq HT HS
          go_wp2
          exact ⟨⟨k + 1, by omega, by go_num, hn2⟩, by simp [intOf]; try omega⟩
      · obtain rfl : k = l.length := by omega
        have h1 := hn.out
        rw [List.take_length] at h1
        replace h1 := Lib.hid h1
        go_wp2
        go_ret
        exact ⟨⟨-1, rfl, by rw [h1.out]; rfl⟩, rfl⟩
  go_enter Try.func165, Try.ntmps165
  go_wp2_with fail
  refine hidx.mono ?_
  rintro e w_ ⟨⟨z, rfl, hz⟩, rfl⟩
  replace hz := Lib.hid hz
  go_wp2
  go_ret
  rw [← hz.out]
  exact ⟨rfl, rfl⟩
set_option maxRecDepth 100000 in
set_option maxHeartbeats 1600000 in
theorem cfRows_among (c0 : Value) (q : List F → Bool) (v : Value) (l : List (List F)) (w : World) (hv : Rbb w v l) (hstep : ∀ u r, r ∈ l → Rb w u r → Calls Try.prog 211 #[u, c0] w fun e w' => e = .returned (.bool (q r)) ∧ w = w') :
   Calls Try.prog 165 #[v, .func (.func 211) #[] #[c0]] w fun e w' => e = .returned (.bool (l.any q)) ∧ w = w' := by
  obtain ⟨A, c, rfl, hc, hr⟩ := hv
  have hl : l.length ≤ 9223372036854775807 := hr.2.1
  replace hstep := Lib.hid hstep
  have hidx : Calls Try.prog 202 #[.slice A l.length c, .func (.func 211) #[] #[c0]] w fun e w' => (∃ z : Int, e = .returned (.int .i64 z) ∧ decide (0 ≤ z) = l.any q) ∧ w = w' := by
    go_enter Try.func202, Try.ntmps202
    go_wp2
    go_loop [5, 8] (fun _ i => ∃ k : Nat, k ≤ l.length ∧ i = .int .i64 k ∧ Hid ((l.take k).any q = false)) (fun _ i => l.length - (intOf i).toNat)
    case atStart => exact ⟨0, by omega, rfl, Lib.hid (by simp)⟩
    case round =>
      obtain ⟨k, hk, rfl, hn⟩ := hrel
      by_cases hlt : k < l.length
      · obtain ⟨ad, u, rfl, d0, hu⟩ := kbb_at hr k hlt
        have hm : Hid (l.getD k [] ∈ l) := Lib.hid (by rw [List.getD_eq_getElem?_getD, List.getElem?_eq_getElem hlt]; exact List.getElem_mem hlt)
        have HS := Lib.hid (any_take_succ l q [] k hlt)
        have HT : Hid (q (l.getD k []) = true → l.any q = true) := Lib.hid (fun e => List.any_eq_true.2 ⟨_, hm.out, e⟩)
        generalize l.getD k [] = r at *
        go_wp2_with fail
        refine (hstep.out u r hm.out hu).mono ?_
        rintro e w_ ⟨rfl, rfl⟩
        cases hq : q r with
        | true =>
          have h1 := HT.out hq
          rw [hq] at HS
          replace h1 := Lib.hid h1
          clear hq
          go_wp2
          go_ret
          exact ⟨⟨_, rfl, by rw [h1.out]; exact decide_eq_true (by omega)⟩, rfl⟩
        | false =>
          have hn2 : Hid ((l.take (k + 1)).any q = false) := Lib.hid (by rw [HS.out, hn.out, hq]; rfl)
          clear hq HT HS
          go_wp2
          exact ⟨⟨k + 1, by omega, by go_num, hn2⟩, by simp [intOf]; try omega⟩
      · obtain rfl : k = l.length := by omega
        have h1 := hn.out
        rw [List.take_length] at h1
        replace h1 := Lib.hid h1
        go_wp2
        go_ret
        exact ⟨⟨-1, rfl, by rw [h1.out]; rfl⟩, rfl⟩
  go_enter Try.func165, Try.ntmps165
  go_wp2_with fail
  refine hidx.mono ?_
  rintro e w_ ⟨⟨z, rfl, hz⟩, rfl⟩
  replace hz := Lib.hid hz
  go_wp2
  go_ret
  rw [← hz.out]
  exact ⟨rfl, rfl⟩
end Go.Proofs.Ytijeabhfddaoaaa
