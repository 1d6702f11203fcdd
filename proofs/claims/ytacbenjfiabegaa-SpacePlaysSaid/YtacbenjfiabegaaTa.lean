/- The walk of the law SpaceOwn. -/
import Derived.Test.YtacbenjfiabegaaSk
import Derived.Test.YtacbenjfiabegaaRow
namespace Go.Proofs.Ytacbenjfiabegaa
set_option linter.unusedVariables false
set_option linter.unusedSimpArgs false
open Go.RowKit Go.Proofs.YtacbenjfiabegaaW.PrintWords Go.Proofs.Sh

theorem al_vals : allB [true, true, true, true] 1 1 (!false) = true ∧ setL [true, true, true, true] 1 1 false = [true, false, true, true] ∧ takeL [true, false, true, true] 2 = (2, true, [true, false, false, false]) ∧ sumR (runsL [true, false, false, false]) = 1 ∧ allB [true, false, false, false] 0 1 true = true ∧ allB [true, false, false, false] 1 1 true = false := by decide
set_option maxRecDepth 100000 in
set_option maxHeartbeats 1600000 in
theorem alive21_c (w : World) :
   Calls Try.prog 26 #[] w fun e w' => e = .returned (.bool true) ∧ Below w.heap.size w w' := by
  obtain ⟨v1, v2, v3, v4, v5, v6⟩ := al_vals
  replace v1 := Lib.hid v1
  replace v2 := Lib.hid v2
  replace v3 := Lib.hid v3
  replace v4 := Lib.hid v4
  replace v5 := Lib.hid v5
  replace v6 := Lib.hid v6
  go_enter Try.func26, Try.ntmps26
  go_wp2_with fail
  refine (spNew_c 4 w).mono ?_
  rintro e w1 ⟨b, g, c, rfl, hS, hB⟩
  replace hS : Sp w w1 b g c [true, true, true, true] := hS
  go_wp2_with fail
  refine (use_c b g c _ 1 1 w w1 hS hB).mono ?_
  rw [v1.out, v2.out]
  rintro e w2 ⟨rfl, hS2, hB2, _⟩
  clear hS hB
  go_wp2_with fail
  refine (take_c b g c _ 2 w w2 hS2 hB2 (by decide)).mono ?_
  rw [v3.out]
  rintro e w3 ⟨rfl, hS3, hB3, _⟩
  clear hS2 hB2
  go_wp2_with fail
  refine (free_c _ _ w3 hS3.rs (by decide)).mono ?_
  rw [v4.out]
  rintro e w4 ⟨rfl, h4⟩
  have hS4 := hS3.below h4
  have hB4 := bt_ hB3 h4
  clear hS3 hB3 h4
  go_wp2_with fail
  refine (is_c _ _ 0 w4 hS4.rs).mono ?_
  rw [v5.out]
  rintro e w5 ⟨rfl, rfl⟩
  go_wp2_with fail
  refine (is_c _ _ 1 w4 hS4.rs).mono ?_
  rw [v6.out]
  rintro e w5 ⟨rfl, rfl⟩
  go_wp2
  go_ret
  exact ⟨rfl, hB4⟩
theorem rs_none (w : World) : Rs w (.pointer none) [] := .inl ⟨rfl, rfl⟩
theorem rs_zero {w : World} {b : Nat} (h : Blk w b #[.slice none 0 0] 82) : Rs w (.pointer (some ⟨b, 0, none⟩)) [] := .inr ⟨b, none, 0, rfl, h, Rk.nil _ _⟩
set_option maxRecDepth 100000 in
set_option maxHeartbeats 3200000 in
theorem SpaceOwn_c (k a0 n0 at_ n : Int) (w : World) :
   Calls Try.prog 8 #[.agg #[.int .i64 k, .int .i64 a0, .int .i64 n0], .int .i64 at_, .int .i64 n] w fun e w' => e = .returned (.bool true) ∧ Below w.heap.size w w' := by
  have hA := Blk.new w #[.int .i64 k, .int .i64 a0, .int .i64 n0] 67
  have hB := below_alloc (Below.refl w.heap.size w) (.cells #[.int .i64 k, .int .i64 a0, .int .i64 n0] 67)
  go_enter Try.func8, Try.ntmps8
  go_wp2_with fail
  generalize w.alloc (.cells #[.int .i64 k, .int .i64 a0, .int .i64 n0] 67) = w0 at *
  refine (spNew_c 9 w0).mono ?_
  rintro e w1 ⟨b, g, c, rfl, hS, h1⟩
  replace hS := hS.lower hB
  replace hB := bt_ hB h1
  replace hA := hA.below h1
  have e1 : w1.cell? ⟨w.heap.size, 1, none⟩ = some (.int .i64 a0) := hA.cell 1 _ rfl
  have e2 : w1.cell? ⟨w.heap.size, 2, none⟩ = some (.int .i64 n0) := hA.cell 2 _ rfl
  have hl : (List.replicate (newN 9) true).length = 9 := by decide
  generalize List.replicate (newN 9) true = l0 at *
  clear hA h1
  go_wp2_with fail
  refine (use_c b g c l0 a0 n0 w w1 hS hB).mono ?_
  rintro e w2 ⟨rfl, hS2, hB2, _⟩
  have hl2 := setL_len l0 a0 n0 false
  rw [hl] at hl2
  generalize allB l0 a0 n0 (!false) = q1 at *
  generalize setL l0 a0 n0 false = l1 at *
  clear hS hB e1 e2
  go_wp2_with fail
  refine (free_c _ _ w2 hS2.rs (by omega)).mono ?_
  rintro e w3 ⟨rfl, h3⟩
  have hS3 := hS2.below h3
  have hB3 := bt_ hB2 h3
  clear hS2 hB2 h3
  go_wp2_with fail
  refine (copy_c b g c l1 w w3 hS3 (by omega)).mono ?_
  rintro e w4 ⟨b', g', c', rfl, hX, h4⟩
  have n1 : b ≠ g' := by have := hS3.blt; have := hX.gbase; omega
  have n2 : g ≠ g' := by have := hS3.glt; have := hX.gbase; omega
  replace hX := hX.lower hB3
  have hS4 := hS3.below h4
  have hB4 := bt_ hB3 h4
  clear hS3 hB3 h4
  go_wp2_with fail
  refine (take_c b' g' c' l1 3 w w4 hX hB4 (by omega)).mono ?_
  rintro e w5 ⟨rfl, hX5, hB5, hG5⟩
  have hS5 := hS4.other hG5 n1 n2
  have hl5 := takeL_len l1 3
  generalize takeL l1 3 = tk at *
  obtain ⟨tk1, tk2, l2⟩ := tk
  simp only at hX5 hl5
  clear hX hS4 hB4 hG5
  go_wp2_with fail
  refine (give_c b' g' c' l2 at_ n w w5 hX5 hB5).mono ?_
  rintro e w6 ⟨rfl, _, hB6, hG6⟩
  have hS6 := hS5.other hG6 n1 n2
  generalize allB l2 at_ n (!true) = q2 at *
  clear hX5 hS5 hB5 hG6
  go_wp2_with fail
  have hZ := Blk.new w6 #[.slice none 0 0] 82
  have h7 := below_alloc (Below.refl w6.heap.size w6) (.cells #[.slice none 0 0] 82)
  replace hS6 := hS6.below h7
  replace hB6 := bt_ hB6 h7
  clear h7
  generalize w6.alloc (.cells #[.slice none 0 0] 82) = w7 at *
  generalize w6.heap.size = bz at *
  refine (take_no (.pointer none) [] 1 w7 (rs_none _) (by decide) (.inr (by decide))).mono ?_
  rintro e w8 ⟨rfl, h8⟩
  replace hS6 := hS6.below h8
  replace hB6 := bt_ hB6 h8
  replace hZ := hZ.below h8
  clear h8
  go_wp2_with fail
  refine (take_no (.pointer (some ⟨bz, 0, none⟩)) [] 1 w8 (rs_zero hZ) (by decide) (.inr (by decide))).mono ?_
  rintro e w9 ⟨rfl, h8⟩
  replace hS6 := hS6.below h8
  replace hB6 := bt_ hB6 h8
  replace hZ := hZ.below h8
  clear h8
  go_wp2_with fail
  refine (free_c _ l1 w9 hS6.rs (by omega)).mono ?_
  rintro e y1 ⟨rfl, h8⟩
  replace hB6 := bt_ hB6 h8
  replace hZ := hZ.below h8
  clear h8 hS6
  have tb : (sumR (runsL l1) == sumR (runsL l1)) = true := beq_self_eq_true _
  go_wp2_with fail
  refine (use_no (.pointer none) [] 0 1 y1 (rs_none _) (by decide)).mono ?_
  rintro e y2 ⟨rfl, rfl⟩
  go_wp2_with fail
  refine (give_no (.pointer (some ⟨bz, 0, none⟩)) [] 0 1 y1 (rs_zero hZ) (by decide)).mono ?_
  rintro e y2 ⟨rfl, rfl⟩
  go_wp2_with fail
  refine (free_c (.pointer none) [] y1 (rs_none _) (by decide)).mono ?_
  rw [show sumR (runsL []) = 0 by decide]
  rintro e y3 ⟨rfl, h8⟩
  replace hB6 := bt_ hB6 h8
  replace hZ := hZ.below h8
  clear h8
  go_wp2_with fail
  refine (longest_c (.pointer none) [] y3 (rs_none _) (by decide)).mono ?_
  rw [show maxR (runsL []) = 0 by decide]
  rintro e y4 ⟨rfl, h8⟩
  replace hB6 := bt_ hB6 h8
  replace hZ := hZ.below h8
  clear h8
  go_wp2_with fail
  refine (free_c (.pointer (some ⟨bz, 0, none⟩)) [] y4 (rs_zero hZ) (by decide)).mono ?_
  rw [show sumR (runsL []) = 0 by decide]
  rintro e y5 ⟨rfl, h8⟩
  replace hB6 := bt_ hB6 h8
  clear h8 hZ
  go_wp2_with fail
  refine (is_c (.pointer none) [] 0 y5 (rs_none _)).mono ?_
  rw [show allB [] 0 1 true = false by decide]
  rintro e y6 ⟨rfl, rfl⟩
  go_wp2_with fail
  refine (copy_nil y5).mono ?_
  rintro e y6 ⟨rfl, rfl⟩
  go_wp2_with fail
  refine (alive21_c y5).mono ?_
  rintro e y6 ⟨rfl, h8⟩
  replace hB6 := bt_ hB6 h8
  go_wp2
  go_ret
  exact ⟨rfl, hB6⟩
theorem SpaceOwn_walk (w : World) (k : Int) (hk : I64 k) (a0 : Int) (ha : I64 a0) (n0 : Int) (hn0 : I64 n0) (at_ : Int) (hat : I64 at_) (n : Int) (hn : I64 n) :
   Calls Try.prog 8 #[.agg #[.int .i64 k, .int .i64 a0, .int .i64 n0], .int .i64 at_, .int .i64 n] w fun e w' => e = .returned (.bool true) ∧ Below w.heap.size w w' :=
  SpaceOwn_c k a0 n0 at_ n w
end Go.Proofs.Ytacbenjfiabegaa
