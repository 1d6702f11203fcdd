/- The walks of the laws PlanPoints, PlanMeets. -/
import Derived.Test.YtijeabhfddaoaaaA08
namespace Go.Proofs.Ytijeabhfddaoaaa
set_option linter.unusedVariables false
open Go.RowKit Go.Proofs.YtijeabhfddaoaaaW.PrintWords Go.Proofs.Sh

set_option maxRecDepth 100000 in
set_option maxHeartbeats 6400000 in
theorem planPoints_no (p : Pl) (hi : p.In) (h : ¬ p.Ok) (w : World) :
   Calls Try.prog 8 #[planV p] w fun e w' => e = .returned (.bool true) ∧ Below w.heap.size w w' := by
  have hB := below_alloc (Below.refl w.heap.size w) (.cells (planC p) 33)
  go_enter Try.func8, Try.ntmps8
  go_wp2_with fail
  refine (rRight_no p hi h _).mono ?_
  rintro e w1 ⟨rfl, h1⟩
  go_wp2_with fail
  refine (alive08 _).mono ?_
  rintro e w2 ⟨rfl, h2⟩
  go_wp2
  go_ret
  exact ⟨rfl, bt_ (bt_ hB h1) h2⟩
set_option maxRecDepth 100000 in
set_option maxHeartbeats 6400000 in
theorem planPoints_yes (p : Pl) (h : p.Ok) (w : World) :
   Calls Try.prog 8 #[planV p] w fun e w' => e = .returned (.bool true) ∧ Below w.heap.size w w' := by
  have HP := Blk.new w (planC p) 33
  have hB := below_alloc (Below.refl w.heap.size w) (.cells (planC p) 33)
  have E1 := Lib.hid (decide_eq_true (points_unlike p h))
  have hNp : 1 ≤ p.N ∧ p.N ≤ 256 := by have := h.nl; have := h.l; have := h.tl; have := h.wn; have := h.t; omega
  have E2 : Hid (((allOf p).map point ++ secretsAt p).length = p.N.toNat + p.L.toNat) := Lib.hid (by rw [List.length_append, List.length_map, all_len, secrets_len])
  have E3 : Hid ((allOf p).length < 1000000) := Lib.hid (by rw [all_len]; omega)
  have E4 : Hid (0 < (secretsAt p).length ∧ ((allOf p).map point).length + (secretsAt p).length ≤ 1000000000) := Lib.hid (by have := h.l; have := h.nl; rw [secrets_len, List.length_map, all_len]; omega)
  go_enter Try.func8, Try.ntmps8
  go_wp2_with fail
  refine (rRight_yes p h _).mono ?_
  rintro e w1 ⟨rfl, h1⟩
  have HP := HP.below h1
  obtain ⟨c0, c1, c2, c3, c4, c5⟩ := cells6 HP
  have hB := bt_ hB h1
  clear h1
  go_wp2
  go_region_held3 (fun w' => w'.cell? ⟨w.heap.size, 0, none⟩ = some (.int .i64 p.N) ∧ w'.cell? ⟨w.heap.size, 1, none⟩ = some (.int .i64 p.T) ∧ w'.cell? ⟨w.heap.size, 2, none⟩ = some (.int .i64 p.L) ∧ w'.cell? ⟨w.heap.size, 3, none⟩ = some (.int .i64 p.W) ∧ w'.cell? ⟨w.heap.size, 4, none⟩ = some (.int .i64 p.S) ∧ w'.cell? ⟨w.heap.size, 5, none⟩ = some (.int .i64 p.R))
    (go_keep)
    (first
      | (go_at_call 50; refine (all_yes p h _).mono ?_; rintro e w6 ⟨vC, rfl, sC, h6⟩; replace sC := sC.rk; (try replace h6 := bu h6); have HP := HP.below h6; obtain ⟨c0, c1, c2, c3, c4, c5⟩ := cells6 HP; have hB := bt_ hB h6)
      | (go_at_call 54; refine (points_c _ _ _ sC E3.out).mono ?_; rintro e w6 ⟨vA, rfl, sA, h6⟩; replace sA := sA.lower hB; (try replace h6 := bu h6); have HP := HP.below h6; obtain ⟨c0, c1, c2, c3, c4, c5⟩ := cells6 HP; have hB := bt_ hB h6)
      | (go_at_call 55; refine (secrets_yes p h _).mono ?_; rintro e w6 ⟨vB, rfl, sB, h6⟩; replace sB := sB.rk; replace sA := sA.below h6; (try replace h6 := bu h6); have HP := HP.below h6; obtain ⟨c0, c1, c2, c3, c4, c5⟩ := cells6 HP; have hB := bt_ hB h6)
      | (refine step_app_b (w0 := w) (by rfl) (.tmp 10) (.tmp 12) (by rfl) vA _ vB _ (by rfl) (by rfl) sA sB E4.out.1 hB E4.out.2 ?_; intro v1 w6 sD hB hg; have HP := HP.grown sA (by decide) hg; obtain ⟨c0, c1, c2, c3, c4, c5⟩ := cells6 HP)
      | fail)
  generalize List.map point (allOf p) ++ secretsAt p = LL at *
  have e2 : (LL.length : Int) = p.N + p.L := by have := E2.out; have := h.l; omega
  have u1 : IntKind.i64.wrap (p.N + p.L) = p.N + p.L := wrapI _ (by have := h.l; omega) (by have := h.nl; omega)
  have b1 : p.N + p.L ≤ 256 := h.nl
  have b2 : 1 ≤ p.L := h.l
  obtain ⟨A, n, rfl, hn, hr⟩ := sD.rk
  have sD := sD.rk
  go_wp2_with fail
  refine (rUnlike_c _ LL _ sD).mono ?_
  rintro e w7 ⟨rfl, h7⟩
  rw [E1.out]
  have hB := bd hB h7
  go_wp2_with fail
  refine (alive08 _).mono ?_
  rintro e w8 ⟨rfl, h8⟩
  go_wp2
  go_ret
  exact ⟨rfl, bt_ hB h8⟩
theorem PlanPoints_walk (w : World) (N : Int) (hN : -9223372036854775808 ≤ N ∧ N ≤ 9223372036854775807) (T : Int) (hT : -9223372036854775808 ≤ T ∧ T ≤ 9223372036854775807) (L : Int) (hL : -9223372036854775808 ≤ L ∧ L ≤ 9223372036854775807) (W : Int) (hW : -9223372036854775808 ≤ W ∧ W ≤ 9223372036854775807) (S : Int) (hS : -9223372036854775808 ≤ S ∧ S ≤ 9223372036854775807) (R : Int) (hR : -9223372036854775808 ≤ R ∧ R ≤ 9223372036854775807) :
   Calls Try.prog 8 #[.agg #[.int .i64 N, .int .i64 T, .int .i64 L, .int .i64 W, .int .i64 S, .int .i64 R]] w fun e w' => e = .returned (.bool true) ∧ Below w.heap.size w w' := by
  by_cases h : (Pl.mk N T L W S R).Ok
  · exact planPoints_yes ⟨N, T, L, W, S, R⟩ h w
  · exact planPoints_no ⟨N, T, L, W, S, R⟩ ⟨hN, hT, hL, hW, hS, hR⟩ h w

end Go.Proofs.Ytijeabhfddaoaaa
