/- The walk of the law RebuildBlobs. -/
import Derived.Test.YtijeabhfddaoaaaR11b
import Derived.Test.YtijeabhfddaoaaaRk
import Derived.Test.YtijeabhfddaoaaaRz
import Derived.Test.YtijeabhfddaoaaaK9
namespace Go.Proofs.Ytijeabhfddaoaaa
set_option linter.unusedVariables false
open Go.RowKit Go.Proofs.YtijeabhfddaoaaaW.PrintWords Go.Proofs.Sh

def twoP1 : Pl := { N := 2, T := 1, L := 1, W := 2, S := 9, R := 1 }
theorem twoP1_ok : twoP1.Ok := ⟨by decide, by decide, by decide, by decide, by decide, by decide, by decide, by decide, by decide⟩
set_option maxRecDepth 100000 in
set_option maxHeartbeats 3200000 in
theorem alive11 (w : World) :
   Calls Try.prog 147 #[] w fun e w' => e = .returned (.bool true) ∧ Below w.heap.size w w' := by
  have E0 : Hid (chE twoP1 (1 : Nat) [2, 1] [[F.of 8], [F.of 13]] = 0) := Lib.hid (by decide +kernel)
  have E2 : Hid (chE twoP1 (1 : Nat) [1, 2] [[F.of 13], [F.of 8]] = 0) := Lib.hid (by decide +kernel)
  have E1 : Hid (F.joinOf twoP1.L.toNat (rowsOf ((([2, 1] : List Int).take 2).map point) (secretsAt twoP1) (([[F.of 8], [F.of 13]] : List (List F)).take 2) (F.nS twoP1.L.toNat 1)) 1 = [F.of 7]) := Lib.hid (by decide +kernel)
  have HP := Blk.new w #[.int .i64 2, .int .i64 1, .int .i64 1, .int .i64 2, .int .i64 9, .int .i64 1] 33
  have hB0 := below_alloc (Below.refl w.heap.size w) (.cells #[.int .i64 2, .int .i64 1, .int .i64 1, .int .i64 2, .int .i64 9, .int .i64 1] 33)
  go_enter Try.func147, Try.ntmps147
  go_wp2_with fail
  generalize w.alloc (.cells #[.int .i64 2, .int .i64 1, .int .i64 1, .int .i64 2, .int .i64 9, .int .i64 1] 33) = w1 at *
  go_wp2_with fail
  refine wp_region_tell [.p (isF), .v (planV twoP1), .p (isI [2, 1]), .p (isB [F.of 8]), .p (isB [F.of 13]), .p (isBB [[F.of 8], [F.of 13]]), .p (isTB [F.of 7] (.int .i64 0)), .p (isTB [F.of 7] (.int .i64 0)), .p (isB [F.of 7]), .v (.int .i64 0), .p (isB [F.of 7]), .v (.int .i64 0)] [([], none), ([], none), ([], none), ([], none), ([], none), ([(3, some 9), (4, some 10)], none), ([(0, some 6), (1, some 7), (2, some 8), (5, some 11)], none), ([(6, some 12)], none), ([(7, some 5)], none), ([(7, some 5)], none), ([(8, some 13)], none), ([(9, some 14)], none)] [(0, some 6), (1, some 7), (2, some 8), (3, some 9), (4, some 10), (5, some 11), (6, some 12), (7, some 5), (8, some 13), (9, some 14), (10, some 2), (11, some 3)] (by kernel_rfl) (by kernel_rfl) (by kernel_rfl) (by kernel_rfl) (by exact ⟨last_F, trivial, last_I _, last_B _, last_B _, last_BB _, last_TB _ _, last_TB _ _, last_B _, trivial, last_B _, trivial, trivial⟩) ⟨?s0, ?s1, ?s2, ?s3, ?s4, ?s5, ?s6, ?s7, ?s8, ?s9, ?s10, ?s11, trivial⟩ ?hQ
  case s0 =>
    intro W hB K hK
    simp only [tellK, Act.put, List.setIfInBounds_toArray, List.set_cons_zero, List.set_cons_succ] at hK ⊢
    refine tell_do rfl ?_
    obtain ⟨c0, c1, c2, c3, c4, c5⟩ := cells6 (HP.below hB)
    go_simp
    go_at_call 38; refine (new_x _).mono ?_; rintro e w6 ⟨bF, rfl, hF, h6⟩; exact hK _ _ ⟨_, rfl, hF⟩ h6
  case s1 =>
    intro W hB K hK
    simp only [tellK, Act.put, List.setIfInBounds_toArray, List.set_cons_zero, List.set_cons_succ] at hK ⊢
    refine tell_do rfl ?_
    obtain ⟨c0, c1, c2, c3, c4, c5⟩ := cells6 (HP.below hB)
    go_simp
    exact hK _ (Below.refl _ _)
  case s2 =>
    intro W hB K hK
    simp only [tellK, Act.put, List.setIfInBounds_toArray, List.set_cons_zero, List.set_cons_succ] at hK ⊢
    refine tell_do rfl ?_
    obtain ⟨c0, c1, c2, c3, c4, c5⟩ := cells6 (HP.below hB)
    go_simp
    exact hK _ _ (lit_i W [2, 1] _ _ _ _ rfl rfl (by decide) (by decide)) (alloc_b _ _)
  case s3 =>
    intro W hB K hK
    simp only [tellK, Act.put, List.setIfInBounds_toArray, List.set_cons_zero, List.set_cons_succ] at hK ⊢
    refine tell_do rfl ?_
    obtain ⟨c0, c1, c2, c3, c4, c5⟩ := cells6 (HP.below hB)
    go_simp
    exact hK _ _ (lit_b W [F.of 8] _ _ _ _ rfl rfl (by decide) (by decide)) (alloc_b _ _)
  case s4 =>
    intro W hB K hK
    simp only [tellK, Act.put, List.setIfInBounds_toArray, List.set_cons_zero, List.set_cons_succ] at hK ⊢
    refine tell_do rfl ?_
    obtain ⟨c0, c1, c2, c3, c4, c5⟩ := cells6 (HP.below hB)
    go_simp
    exact hK _ _ (lit_b W [F.of 13] _ _ _ _ rfl rfl (by decide) (by decide)) (alloc_b _ _)
  case s5 =>
    intro W hB v3 h3 v4 h4 K hK
    replace h3 : Rb W v3 [F.of 8] := h3
    replace h4 : Rb W v4 [F.of 13] := h4
    simp only [tellK, Act.put, List.setIfInBounds_toArray, List.set_cons_zero, List.set_cons_succ] at hK ⊢
    refine tell_do rfl ?_
    obtain ⟨c0, c1, c2, c3, c4, c5⟩ := cells6 (HP.below hB)
    (obtain ⟨A3, d3, rfl⟩ := rk_form h3); (obtain ⟨A4, d4, rfl⟩ := rk_form h4); go_simp; exact hK _ _ (lit_bb2 W _ _ _ _ _ h3 h4) (alloc_b _ _)
  case s6 =>
    intro W hB v0 h0 v2 h2 v5 h5 K hK
    obtain ⟨b0, rfl, h0⟩ := h0
    replace h2 : Ri W v2 [2, 1] := h2
    replace h5 : Rbb W v5 [[F.of 8], [F.of 13]] := h5
    simp only [tellK, Act.put, List.setIfInBounds_toArray, List.set_cons_zero, List.set_cons_succ] at hK ⊢
    refine tell_do rfl ?_
    obtain ⟨c0, c1, c2, c3, c4, c5⟩ := cells6 (HP.below hB)
    go_simp
    go_at_call 148; refine (rbBlob_ok _ twoP1 twoP1_ok 1 (by decide) 2 (by decide) (by decide) _ _ [2, 1] [[F.of 8], [F.of 13]] _ h0 h2 h5 (by decide) E0.out).mono ?_; rintro e w6 ⟨vZ, rfl, sZ, h6⟩; replace sZ := sZ.rk; rw [E1.out] at sZ; exact hK _ _ ⟨_, rfl, sZ⟩ h6
  case s7 =>
    intro W hB v6 h6 K hK
    obtain ⟨z6, rfl, h6⟩ := h6
    simp only [tellK, Act.put, List.setIfInBounds_toArray, List.set_cons_zero, List.set_cons_succ] at hK ⊢
    refine tell_do rfl ?_
    obtain ⟨c0, c1, c2, c3, c4, c5⟩ := cells6 (HP.below hB)
    go_simp
    exact hK _ _ ⟨_, rfl, h6⟩ (Below.refl _ _)
  case s8 =>
    intro W hB v7 h7 K hK
    obtain ⟨z7, rfl, h7⟩ := h7
    simp only [tellK, Act.put, List.setIfInBounds_toArray, List.set_cons_zero, List.set_cons_succ] at hK ⊢
    refine tell_do rfl ?_
    obtain ⟨c0, c1, c2, c3, c4, c5⟩ := cells6 (HP.below hB)
    go_simp
    exact hK _ _ h7 (Below.refl _ _)
  case s9 =>
    intro W hB v7 h7 K hK
    obtain ⟨z7, rfl, h7⟩ := h7
    simp only [tellK, Act.put, List.setIfInBounds_toArray, List.set_cons_zero, List.set_cons_succ] at hK ⊢
    refine tell_do rfl ?_
    obtain ⟨c0, c1, c2, c3, c4, c5⟩ := cells6 (HP.below hB)
    go_simp
    exact hK _ (Below.refl _ _)
  case s10 =>
    intro W hB v8 h8 K hK
    replace h8 : Rb W v8 [F.of 7] := h8
    simp only [tellK, Act.put, List.setIfInBounds_toArray, List.set_cons_zero, List.set_cons_succ] at hK ⊢
    refine tell_do rfl ?_
    obtain ⟨c0, c1, c2, c3, c4, c5⟩ := cells6 (HP.below hB)
    go_simp
    exact hK _ _ h8 (Below.refl _ _)
  case s11 =>
    intro W hB K hK
    simp only [tellK, Act.put, List.setIfInBounds_toArray, List.set_cons_zero, List.set_cons_succ] at hK ⊢
    refine tell_do rfl ?_
    obtain ⟨c0, c1, c2, c3, c4, c5⟩ := cells6 (HP.below hB)
    go_simp
    exact hK _ (Below.refl _ _)
  case hQ =>
    intro W hB v0 h0 v2 h2 v3 h3 v4 h4 v5 h5 v6 h6 v7 h7 v8 h8 v10 h10
    obtain ⟨b0, rfl, h0⟩ := h0
    replace h2 : Ri W v2 [2, 1] := h2
    replace h3 : Rb W v3 [F.of 8] := h3
    replace h4 : Rb W v4 [F.of 13] := h4
    replace h5 : Rbb W v5 [[F.of 8], [F.of 13]] := h5
    obtain ⟨z6, rfl, h6⟩ := h6
    obtain ⟨z7, rfl, h7⟩ := h7
    replace h8 : Rb W v8 [F.of 7] := h8
    replace h10 : Rb W v10 [F.of 7] := h10
    simp only [tellGo, sayAt, List.getD_cons_zero, List.getD_cons_succ, Act.put, List.setIfInBounds_toArray, List.set_cons_zero, List.set_cons_succ]
    replace hB0 := bt_ hB0 hB
    replace HP := HP.below hB
    have hs := h10
    clear h0 h2 h3 h4 h5 h6 h7 h8 h10 hB
    go_wp2_with fail
    refine wp_region_tell [.v (.int .i64 0), .v (.bool true), .v (.bool true), .p (isB [F.of 7]), .p (isB [F.of 7]), .v (.bool true), .v (.bool true), .v (.bool true), .p (isF), .v (planV twoP1), .p (isI [1, 2]), .p (isB [F.of 13]), .p (isB [F.of 8]), .p (isBB [[F.of 13], [F.of 8]]), .v (.bool true), .v (.bool true), .v (.bool true)] [([], none), ([(0, some 15)], none), ([(1, some 16)], none), ([(2, some 17)], some (some 17, true)), ([(2, some 17)], some (some 17, true)), ([(2, some 17), (3, some 18), (4, some 19)], some (some 17, true)), ([(2, some 17), (5, some 20)], none), ([(6, some 21)], none), ([(7, some 22)], some (some 22, true)), ([(7, some 22)], some (some 22, true)), ([(7, some 22)], some (some 22, true)), ([(7, some 22)], some (some 22, true)), ([(7, some 22)], some (some 22, true)), ([(7, some 22), (11, some 26), (12, some 27)], some (some 22, true)), ([(7, some 22), (8, some 23), (9, some 24), (10, some 25), (13, some 28)], some (some 22, true)), ([(7, some 22), (14, some 29)], none), ([(15, some 30)], none)] [(0, some 15), (1, some 16), (2, some 17), (3, some 18), (4, some 19), (5, some 20), (6, some 21), (7, some 22), (8, some 23), (9, some 24), (10, some 25), (11, some 26), (12, some 27), (13, some 28), (14, some 29), (15, some 30), (16, some 0)] (by kernel_rfl) (by kernel_rfl) (by kernel_rfl) (by kernel_rfl) (by exact ⟨trivial, trivial, trivial, last_B _, last_B _, trivial, trivial, trivial, last_F, trivial, last_I _, last_B _, last_B _, last_BB _, trivial, trivial, trivial, trivial⟩) ⟨?s0, ?s1, ?s2, ?s3, ?s4, ?s5, ?s6, ?s7, ?s8, ?s9, ?s10, ?s11, ?s12, ?s13, ?s14, ?s15, ?s16, trivial⟩ ?hQ
    case s0 =>
      intro W hB K hK
      simp only [tellK, Act.put, List.setIfInBounds_toArray, List.set_cons_zero, List.set_cons_succ] at hK ⊢
      refine tell_do rfl ?_
      obtain ⟨c0, c1, c2, c3, c4, c5⟩ := cells6 (HP.below hB)
      go_simp
      exact hK _ (Below.refl _ _)
    case s1 =>
      intro W hB K hK
      simp only [tellK, Act.put, List.setIfInBounds_toArray, List.set_cons_zero, List.set_cons_succ] at hK ⊢
      refine tell_do rfl ?_
      obtain ⟨c0, c1, c2, c3, c4, c5⟩ := cells6 (HP.below hB)
      go_simp
      exact hK _ (Below.refl _ _)
    case s2 =>
      intro W hB K hK
      simp only [tellK, Act.put, List.setIfInBounds_toArray, List.set_cons_zero, List.set_cons_succ] at hK ⊢
      refine tell_do rfl ?_
      obtain ⟨c0, c1, c2, c3, c4, c5⟩ := cells6 (HP.below hB)
      go_simp
      exact hK _ (Below.refl _ _)
    case s3 =>
      intro W hB K hK
      simp only [tellK, Act.put, List.setIfInBounds_toArray, List.set_cons_zero, List.set_cons_succ] at hK ⊢
      refine tell_do rfl ?_
      obtain ⟨c0, c1, c2, c3, c4, c5⟩ := cells6 (HP.below hB)
      go_simp
      exact hK _ _ (hs.below hB) (Below.refl _ _)
    case s4 =>
      intro W hB K hK
      simp only [tellK, Act.put, List.setIfInBounds_toArray, List.set_cons_zero, List.set_cons_succ] at hK ⊢
      refine tell_do rfl ?_
      obtain ⟨c0, c1, c2, c3, c4, c5⟩ := cells6 (HP.below hB)
      go_simp
      exact hK _ _ (lit_b W [F.of 7] _ _ _ _ rfl rfl (by decide) (by decide)) (alloc_b _ _)
    case s5 =>
      intro W hB v3 h3 v4 h4 K hK
      replace h3 : Rb W v3 [F.of 7] := h3
      replace h4 : Rb W v4 [F.of 7] := h4
      simp only [tellK, Act.put, List.setIfInBounds_toArray, List.set_cons_zero, List.set_cons_succ] at hK ⊢
      refine tell_do rfl ?_
      obtain ⟨c0, c1, c2, c3, c4, c5⟩ := cells6 (HP.below hB)
      go_simp
      go_at_call 60; refine (rSame_c _ _ [F.of 7] [F.of 7] _ h3 h4).mono ?_; rintro e w6 ⟨rfl, h6⟩; rw [decide_eq_true (rfl : [F.of 7] = [F.of 7])]; exact hK _ h6.below
    case s6 =>
      intro W hB K hK
      simp only [tellK, Act.put, List.setIfInBounds_toArray, List.set_cons_zero, List.set_cons_succ] at hK ⊢
      refine tell_do rfl ?_
      obtain ⟨c0, c1, c2, c3, c4, c5⟩ := cells6 (HP.below hB)
      go_simp
      exact hK _ (Below.refl _ _)
    case s7 =>
      intro W hB K hK
      simp only [tellK, Act.put, List.setIfInBounds_toArray, List.set_cons_zero, List.set_cons_succ] at hK ⊢
      refine tell_do rfl ?_
      obtain ⟨c0, c1, c2, c3, c4, c5⟩ := cells6 (HP.below hB)
      go_simp
      exact hK _ (Below.refl _ _)
    case s8 =>
      intro W hB K hK
      simp only [tellK, Act.put, List.setIfInBounds_toArray, List.set_cons_zero, List.set_cons_succ] at hK ⊢
      refine tell_do rfl ?_
      obtain ⟨c0, c1, c2, c3, c4, c5⟩ := cells6 (HP.below hB)
      go_simp
      go_at_call 38; refine (new_x _).mono ?_; rintro e w6 ⟨bF, rfl, hF, h6⟩; exact hK _ _ ⟨_, rfl, hF⟩ h6
    case s9 =>
      intro W hB K hK
      simp only [tellK, Act.put, List.setIfInBounds_toArray, List.set_cons_zero, List.set_cons_succ] at hK ⊢
      refine tell_do rfl ?_
      obtain ⟨c0, c1, c2, c3, c4, c5⟩ := cells6 (HP.below hB)
      go_simp
      exact hK _ (Below.refl _ _)
    case s10 =>
      intro W hB K hK
      simp only [tellK, Act.put, List.setIfInBounds_toArray, List.set_cons_zero, List.set_cons_succ] at hK ⊢
      refine tell_do rfl ?_
      obtain ⟨c0, c1, c2, c3, c4, c5⟩ := cells6 (HP.below hB)
      go_simp
      exact hK _ _ (lit_i W [1, 2] _ _ _ _ rfl rfl (by decide) (by decide)) (alloc_b _ _)
    case s11 =>
      intro W hB K hK
      simp only [tellK, Act.put, List.setIfInBounds_toArray, List.set_cons_zero, List.set_cons_succ] at hK ⊢
      refine tell_do rfl ?_
      obtain ⟨c0, c1, c2, c3, c4, c5⟩ := cells6 (HP.below hB)
      go_simp
      exact hK _ _ (lit_b W [F.of 13] _ _ _ _ rfl rfl (by decide) (by decide)) (alloc_b _ _)
    case s12 =>
      intro W hB K hK
      simp only [tellK, Act.put, List.setIfInBounds_toArray, List.set_cons_zero, List.set_cons_succ] at hK ⊢
      refine tell_do rfl ?_
      obtain ⟨c0, c1, c2, c3, c4, c5⟩ := cells6 (HP.below hB)
      go_simp
      exact hK _ _ (lit_b W [F.of 8] _ _ _ _ rfl rfl (by decide) (by decide)) (alloc_b _ _)
    case s13 =>
      intro W hB v11 h11 v12 h12 K hK
      replace h11 : Rb W v11 [F.of 13] := h11
      replace h12 : Rb W v12 [F.of 8] := h12
      simp only [tellK, Act.put, List.setIfInBounds_toArray, List.set_cons_zero, List.set_cons_succ] at hK ⊢
      refine tell_do rfl ?_
      obtain ⟨c0, c1, c2, c3, c4, c5⟩ := cells6 (HP.below hB)
      (obtain ⟨A11, d11, rfl⟩ := rk_form h11); (obtain ⟨A12, d12, rfl⟩ := rk_form h12); go_simp; exact hK _ _ (lit_bb2 W _ _ _ _ _ h11 h12) (alloc_b _ _)
    case s14 =>
      intro W hB v8 h8 v10 h10 v13 h13 K hK
      obtain ⟨b8, rfl, h8⟩ := h8
      replace h10 : Ri W v10 [1, 2] := h10
      replace h13 : Rbb W v13 [[F.of 13], [F.of 8]] := h13
      simp only [tellK, Act.put, List.setIfInBounds_toArray, List.set_cons_zero, List.set_cons_succ] at hK ⊢
      refine tell_do rfl ?_
      obtain ⟨c0, c1, c2, c3, c4, c5⟩ := cells6 (HP.below hB)
      go_simp
      go_at_call 149; refine (rbAgree_ok _ twoP1 twoP1_ok 1 (by decide) 2 (by decide) (by decide) _ _ [1, 2] [[F.of 13], [F.of 8]] _ h8 h10 h13 (by decide) E2.out).mono ?_; rintro e w6 ⟨bb, rfl, hbb, h6⟩; obtain rfl : bb = true := hbb.2 (fun k h1 h2 => absurd (Nat.lt_of_le_of_lt h1 h2) (by decide)); exact hK _ h6
    case s15 =>
      intro W hB K hK
      simp only [tellK, Act.put, List.setIfInBounds_toArray, List.set_cons_zero, List.set_cons_succ] at hK ⊢
      refine tell_do rfl ?_
      obtain ⟨c0, c1, c2, c3, c4, c5⟩ := cells6 (HP.below hB)
      go_simp
      exact hK _ (Below.refl _ _)
    case s16 =>
      intro W hB K hK
      simp only [tellK, Act.put, List.setIfInBounds_toArray, List.set_cons_zero, List.set_cons_succ] at hK ⊢
      refine tell_do rfl ?_
      obtain ⟨c0, c1, c2, c3, c4, c5⟩ := cells6 (HP.below hB)
      go_simp
      exact hK _ (Below.refl _ _)
    case hQ =>
      intro W hB v3 h3 v4 h4 v8 h8 v10 h10 v11 h11 v12 h12 v13 h13
      replace h3 : Rb W v3 [F.of 7] := h3
      replace h4 : Rb W v4 [F.of 7] := h4
      obtain ⟨b8, rfl, h8⟩ := h8
      replace h10 : Ri W v10 [1, 2] := h10
      replace h11 : Rb W v11 [F.of 13] := h11
      replace h12 : Rb W v12 [F.of 8] := h12
      replace h13 : Rbb W v13 [[F.of 13], [F.of 8]] := h13
      simp only [tellGo, sayAt, List.getD_cons_zero, List.getD_cons_succ, Act.put, List.setIfInBounds_toArray, List.set_cons_zero, List.set_cons_succ]
      go_wp2
      go_ret
      exact ⟨rfl, bt_ hB0 hB⟩
/-! ### RebuildBlobs -/
set_option maxRecDepth 100000 in
set_option maxHeartbeats 3200000 in
theorem rebuildBlobs_far (p : Pl) (n : Int) (v u : Value) (who : List Int) (sh : List (List F)) (w : World) (hv : Ri w v who) (hu : Rbb w u sh) (h : ¬ (Lite p ∧ who.length ≤ 14 ∧ sh.length ≤ 14)) :
   Calls Try.prog 32 #[planV p, .agg #[.int .i64 n, v, u]] w fun e w' => e = .returned (.bool true) ∧ Below w.heap.size w w' := by
  by_cases hL : Lite p
  · by_cases h1 : who.length ≤ 14
    · have t1 : decide ((14 : Int) < (who.length : Int)) = false := decide_eq_false (by omega)
      have t2 : (14 : Int) < (sh.length : Int) := by
        have : ¬ sh.length ≤ 14 := fun e => h ⟨hL, h1, e⟩
        omega
      replace hL := Lib.hid (decide_eq_true hL)
      clear h h1
      obtain ⟨A, c, rfl, hc, hr⟩ := hv
      obtain ⟨B, d, rfl, hd, hs⟩ := hu
      have hv : Ri w (.slice A who.length c) who := ⟨A, c, rfl, hc, hr⟩
      have hu : Rbb w (.slice B sh.length d) sh := ⟨B, d, rfl, hd, hs⟩
      have HP := (Blk.new w (planC p) 33).alloc (.cells #[.int .i64 n, .slice A who.length c, .slice B sh.length d] 131)
      have HQ := Blk.new' (w.alloc (.cells (planC p) 33)) #[.int .i64 n, .slice A who.length c, .slice B sh.length d] 131 (World.size_alloc _ _)
      have hB := below_alloc (below_alloc (Below.refl w.heap.size w) (.cells (planC p) 33)) (.cells #[.int .i64 n, .slice A who.length c, .slice B sh.length d] 131)
      have hv := hv.below hB
      have hu := hu.below hB
      go_enter Try.func32, Try.ntmps32
      go_wp2_with fail
      generalize (w.alloc (.cells (planC p) 33)).alloc (.cells #[.int .i64 n, .slice A who.length c, .slice B sh.length d] 131) = w1 at *
      obtain ⟨c0, c1, c2, c3, c4, c5⟩ := cells6 HP; have q0 := HQ.cell 0 _ rfl; have q1 := HQ.cell 1 _ rfl; have q2 := HQ.cell 2 _ rfl
      go_wp2_with fail
      refine (light_c p _).mono ?_
      rintro e w2 ⟨rfl, h2⟩
      rw [hL.out]
      have HP := HP.below h2
      have HQ := HQ.below h2
      have hB := bt_ hB h2
      have hv := hv.below h2
      have hu := hu.below h2
      obtain ⟨c0, c1, c2, c3, c4, c5⟩ := cells6 HP; have q0 := HQ.cell 0 _ rfl; have q1 := HQ.cell 1 _ rfl; have q2 := HQ.cell 2 _ rfl
      clear h2 hr hs
      go_wp2_with fail
      refine (alive11 _).mono ?_
      rintro e w9 ⟨rfl, h⟩
      have hB := bt_ hB h
      clear h
      go_wp2
      go_ret
      exact ⟨rfl, hB⟩
    · have t1 : (14 : Int) < (who.length : Int) := by omega
      replace hL := Lib.hid (decide_eq_true hL)
      clear h h1
      obtain ⟨A, c, rfl, hc, hr⟩ := hv
      obtain ⟨B, d, rfl, hd, hs⟩ := hu
      have hv : Ri w (.slice A who.length c) who := ⟨A, c, rfl, hc, hr⟩
      have hu : Rbb w (.slice B sh.length d) sh := ⟨B, d, rfl, hd, hs⟩
      have HP := (Blk.new w (planC p) 33).alloc (.cells #[.int .i64 n, .slice A who.length c, .slice B sh.length d] 131)
      have HQ := Blk.new' (w.alloc (.cells (planC p) 33)) #[.int .i64 n, .slice A who.length c, .slice B sh.length d] 131 (World.size_alloc _ _)
      have hB := below_alloc (below_alloc (Below.refl w.heap.size w) (.cells (planC p) 33)) (.cells #[.int .i64 n, .slice A who.length c, .slice B sh.length d] 131)
      have hv := hv.below hB
      have hu := hu.below hB
      go_enter Try.func32, Try.ntmps32
      go_wp2_with fail
      generalize (w.alloc (.cells (planC p) 33)).alloc (.cells #[.int .i64 n, .slice A who.length c, .slice B sh.length d] 131) = w1 at *
      obtain ⟨c0, c1, c2, c3, c4, c5⟩ := cells6 HP; have q0 := HQ.cell 0 _ rfl; have q1 := HQ.cell 1 _ rfl; have q2 := HQ.cell 2 _ rfl
      go_wp2_with fail
      refine (light_c p _).mono ?_
      rintro e w2 ⟨rfl, h2⟩
      rw [hL.out]
      have HP := HP.below h2
      have HQ := HQ.below h2
      have hB := bt_ hB h2
      have hv := hv.below h2
      have hu := hu.below h2
      obtain ⟨c0, c1, c2, c3, c4, c5⟩ := cells6 HP; have q0 := HQ.cell 0 _ rfl; have q1 := HQ.cell 1 _ rfl; have q2 := HQ.cell 2 _ rfl
      clear h2 hr hs
      go_wp2_with fail
      refine (alive11 _).mono ?_
      rintro e w9 ⟨rfl, h⟩
      have hB := bt_ hB h
      clear h
      go_wp2
      go_ret
      exact ⟨rfl, hB⟩
  · replace hL := Lib.hid (decide_eq_false hL)
    clear h
    obtain ⟨A, c, rfl, hc, hr⟩ := hv
    obtain ⟨B, d, rfl, hd, hs⟩ := hu
    have hv : Ri w (.slice A who.length c) who := ⟨A, c, rfl, hc, hr⟩
    have hu : Rbb w (.slice B sh.length d) sh := ⟨B, d, rfl, hd, hs⟩
    have HP := (Blk.new w (planC p) 33).alloc (.cells #[.int .i64 n, .slice A who.length c, .slice B sh.length d] 131)
    have HQ := Blk.new' (w.alloc (.cells (planC p) 33)) #[.int .i64 n, .slice A who.length c, .slice B sh.length d] 131 (World.size_alloc _ _)
    have hB := below_alloc (below_alloc (Below.refl w.heap.size w) (.cells (planC p) 33)) (.cells #[.int .i64 n, .slice A who.length c, .slice B sh.length d] 131)
    have hv := hv.below hB
    have hu := hu.below hB
    go_enter Try.func32, Try.ntmps32
    go_wp2_with fail
    generalize (w.alloc (.cells (planC p) 33)).alloc (.cells #[.int .i64 n, .slice A who.length c, .slice B sh.length d] 131) = w1 at *
    obtain ⟨c0, c1, c2, c3, c4, c5⟩ := cells6 HP; have q0 := HQ.cell 0 _ rfl; have q1 := HQ.cell 1 _ rfl; have q2 := HQ.cell 2 _ rfl
    go_wp2_with fail
    refine (light_c p _).mono ?_
    rintro e w2 ⟨rfl, h2⟩
    rw [hL.out]
    have HP := HP.below h2
    have HQ := HQ.below h2
    have hB := bt_ hB h2
    have hv := hv.below h2
    have hu := hu.below h2
    obtain ⟨c0, c1, c2, c3, c4, c5⟩ := cells6 HP; have q0 := HQ.cell 0 _ rfl; have q1 := HQ.cell 1 _ rfl; have q2 := HQ.cell 2 _ rfl
    clear h2 hr hs
    go_wp2_with fail
    refine (alive11 _).mono ?_
    rintro e w9 ⟨rfl, h⟩
    have hB := bt_ hB h
    clear h
    go_wp2
    go_ret
    exact ⟨rfl, hB⟩
set_option maxRecDepth 100000 in
set_option maxHeartbeats 3200000 in
theorem rebuildBlobs_bad (p : Pl) (n : Int) (x : Int) (hx : x ≠ 0) (v u : Value) (who : List Int) (sh : List (List F)) (w : World) (hv : Ri w v who) (hu : Rbb w u sh) (hL : Lite p) (hl1 : who.length ≤ 14) (hl2 : sh.length ≤ 14)
   (cB : ∀ (fv v u : Value) (w : World), Ri w v who → Rbb w u sh → Calls Try.prog 148 #[fv, planV p, .int .i64 n, v, u] w fun e w' => e = .returned (.tuple #[.slice none 0 0, .int .i64 x]) ∧ Below w.heap.size w w')
   (cA : ∀ (fv v u : Value) (w : World), Ri w v who → Rbb w u sh → Calls Try.prog 149 #[fv, planV p, .int .i64 n, v, u] w fun e w' => e = .returned (.bool false) ∧ Below w.heap.size w w')
   (cC : ∀ (v u : Value) (w : World), Ri w v who → Rbb w u sh → Calls Try.prog 150 #[planV p, .int .i64 n, v, u] w fun e w' => e = .returned (.int .i64 x) ∧ Below w.heap.size w w') :
   Calls Try.prog 32 #[planV p, .agg #[.int .i64 n, v, u]] w fun e w' => e = .returned (.bool true) ∧ Below w.heap.size w w' := by
  have t9 : (x != 0) = true := bne_iff_ne.2 hx
  clear hx
  replace cB := Lib.hid cB
  replace cA := Lib.hid cA
  replace cC := Lib.hid cC
  replace hL := Lib.hid (decide_eq_true hL)
  have t1 : decide ((14 : Int) < (who.length : Int)) = false := decide_eq_false (by omega)
  have t2 : decide ((14 : Int) < (sh.length : Int)) = false := decide_eq_false (by omega)
  obtain ⟨A, c, rfl, hc, hr⟩ := hv
  obtain ⟨B, d, rfl, hd, hs⟩ := hu
  have hv : Ri w (.slice A who.length c) who := ⟨A, c, rfl, hc, hr⟩
  have hu : Rbb w (.slice B sh.length d) sh := ⟨B, d, rfl, hd, hs⟩
  have HP := (Blk.new w (planC p) 33).alloc (.cells #[.int .i64 n, .slice A who.length c, .slice B sh.length d] 131)
  have HQ := Blk.new' (w.alloc (.cells (planC p) 33)) #[.int .i64 n, .slice A who.length c, .slice B sh.length d] 131 (World.size_alloc _ _)
  have hB := below_alloc (below_alloc (Below.refl w.heap.size w) (.cells (planC p) 33)) (.cells #[.int .i64 n, .slice A who.length c, .slice B sh.length d] 131)
  have hv := hv.below hB
  have hu := hu.below hB
  go_enter Try.func32, Try.ntmps32
  go_wp2_with fail
  generalize (w.alloc (.cells (planC p) 33)).alloc (.cells #[.int .i64 n, .slice A who.length c, .slice B sh.length d] 131) = w1 at *
  obtain ⟨c0, c1, c2, c3, c4, c5⟩ := cells6 HP; have q0 := HQ.cell 0 _ rfl; have q1 := HQ.cell 1 _ rfl; have q2 := HQ.cell 2 _ rfl
  go_wp2_with fail
  refine (light_c p _).mono ?_
  rintro e w2 ⟨rfl, h2⟩
  rw [hL.out]
  have HP := HP.below h2
  have HQ := HQ.below h2
  have hB := bt_ hB h2
  have hv := hv.below h2
  have hu := hu.below h2
  obtain ⟨c0, c1, c2, c3, c4, c5⟩ := cells6 HP; have q0 := HQ.cell 0 _ rfl; have q1 := HQ.cell 1 _ rfl; have q2 := HQ.cell 2 _ rfl
  clear h2 hr hs
  go_wp2_with fail
  go_loop [6, 31] (fun _ i => ∃ k : Nat, k ≤ sh.length ∧ i = .int .i64 k) (fun _ i => sh.length - (intOf i).toNat)
  case atStart => exact ⟨0, by omega, rfl⟩
  case round =>
    obtain ⟨k, hk, rfl⟩ := hrel
    by_cases hlt : k < sh.length
    · obtain ⟨ad, u5, rfl, d0, hu5⟩ := kbb_at (rk_C hu) k hlt
      generalize sh.getD k [] = r at *
      obtain ⟨A9, c9, rfl⟩ := rk_form hu5
      by_cases hr9 : 250 < r.length
      · have t3 : (250 : Int) < (r.length : Int) := by omega
        go_wp2_with fail
        refine (alive11 _).mono ?_
        rintro e w9 ⟨rfl, h⟩
        have hB := bt_ hB h
        clear h
        go_wp2
        go_ret
        exact ⟨rfl, hB⟩
      · have t3 : decide ((250 : Int) < (r.length : Int)) = false := decide_eq_false (by omega)
        go_wp2
        exact ⟨⟨k + 1, by omega, by go_num⟩, by simp [intOf]; try omega⟩
    · obtain rfl : k = sh.length := by omega
      go_wp2_with fail
      refine (new_x _).mono ?_
      rintro e w3 ⟨bF, rfl, hF, h3⟩
      have HP := HP.below h3
      have HQ := HQ.below h3
      have hB := bt_ hB h3
      have hv := hv.below h3
      have hu := hu.below h3
      obtain ⟨c0, c1, c2, c3, c4, c5⟩ := cells6 HP; have q0 := HQ.cell 0 _ rfl; have q1 := HQ.cell 1 _ rfl; have q2 := HQ.cell 2 _ rfl
      clear h3
      go_wp2_with fail
      refine (cB.out _ _ _ _ hv hu).mono ?_
      rintro e w4 ⟨rfl, h4⟩
      have HP := HP.below h4
      have HQ := HQ.below h4
      have hB := bt_ hB h4
      have hv := hv.below h4
      have hu := hu.below h4
      obtain ⟨c0, c1, c2, c3, c4, c5⟩ := cells6 HP; have q0 := HQ.cell 0 _ rfl; have q1 := HQ.cell 1 _ rfl; have q2 := HQ.cell 2 _ rfl
      clear h4
      go_wp2_with fail
      refine (cA.out _ _ _ _ hv hu).mono ?_
      rintro e w5 ⟨rfl, h5⟩
      have HP := HP.below h5
      have HQ := HQ.below h5
      have hB := bt_ hB h5
      have hv := hv.below h5
      have hu := hu.below h5
      obtain ⟨c0, c1, c2, c3, c4, c5⟩ := cells6 HP; have q0 := HQ.cell 0 _ rfl; have q1 := HQ.cell 1 _ rfl; have q2 := HQ.cell 2 _ rfl
      clear h5
      go_wp2_with fail
      refine (cC.out _ _ _ hv hu).mono ?_
      rintro e w6 ⟨rfl, h6⟩
      have HP := HP.below h6
      have HQ := HQ.below h6
      have hB := bt_ hB h6
      have hv := hv.below h6
      have hu := hu.below h6
      obtain ⟨c0, c1, c2, c3, c4, c5⟩ := cells6 HP; have q0 := HQ.cell 0 _ rfl; have q1 := HQ.cell 1 _ rfl; have q2 := HQ.cell 2 _ rfl
      clear h6
      go_wp2_with fail
      refine (alive11 _).mono ?_
      rintro e w9 ⟨rfl, h⟩
      have hB := bt_ hB h
      clear h
      go_wp2
      go_ret
      exact ⟨rfl, hB⟩
set_option maxRecDepth 100000 in
set_option maxHeartbeats 3200000 in
theorem rebuildBlobs_ok (p : Pl) (h : p.Ok) (n : Nat) (hn : n ≤ 240) (v u : Value) (who : List Int) (sh : List (List F)) (w : World) (hv : Ri w v who) (hu : Rbb w u sh) (hL : Lite p) (hl1 : who.length ≤ 14) (hl2 : sh.length ≤ 14) (hch : chE p n who sh = 0) :
   Calls Try.prog 32 #[planV p, .agg #[.int .i64 (n : Int), v, u]] w fun e w' => e = .returned (.bool true) ∧ Below w.heap.size w w' := by
  obtain ⟨g1, g2, g3, g4, g5⟩ := chE_ok h hn hch
  obtain ⟨K, eK, hK⟩ : ∃ K : Nat, p.T + p.L = K ∧ K < 255 := ⟨(p.T + p.L).toNat, by have := tl_range h; omega, by have := hL.2.1; have := hL.2.2; omega⟩
  have hKw : K ≤ who.length := by omega
  have hxn := map_take_nodup h K g1 g2
  have hxl : ((who.take K).map point).length = K := by rw [List.length_map, List.length_take]; omega
  have hL1 : 0 < p.L.toNat := by have := h.l; omega
  have hjr := Lib.hid (join_rows hxn (by omega) p.L.toNat hL1 (sec_len10 p) (sh.take K) (F.nS p.L.toNat n) n (F.nS_le _ _ hL1))
  have hag := Lib.hid (agr_iff (xs := (who.take K).map point) (all := who.map point) K (by rw [List.map_take]) (by rw [List.length_map]; exact hKw) hxn (by omega) sh (by rw [List.length_map]; exact g4) (F.nS p.L.toNat n))
  have hn2 : Hid (0 ≤ (n : Int) ∧ (n : Int) ≤ 240) := Lib.hid ⟨by omega, by omega⟩
  have hwl : Hid (who.length ≤ 1000) := Lib.hid (by omega)
  have hk1 : Hid (K ≤ who.length) := Lib.hid hKw
  have hk2 : Hid (K ≤ sh.length) := Lib.hid (by omega)
  have hk3 := Lib.hid g5
  have hk4 := Lib.hid g4
  have hns : Hid (F.nS p.L.toNat n ≤ 1000) := Lib.hid (Nat.le_trans (F.nS_le_len _ n hL1) (by omega))
  replace eK := Lib.hid eK
  replace hK := Lib.hid hK
  replace hch := Lib.hid hch
  clear g1 g2 g3 g4 g5 hKw hxn hxl
  replace hL := Lib.hid (decide_eq_true hL)
  have t1 : decide ((14 : Int) < (who.length : Int)) = false := decide_eq_false (by omega)
  have t2 : decide ((14 : Int) < (sh.length : Int)) = false := decide_eq_false (by omega)
  obtain ⟨A, c, rfl, hc, hr⟩ := hv
  obtain ⟨B, d, rfl, hd, hs⟩ := hu
  have hv : Ri w (.slice A who.length c) who := ⟨A, c, rfl, hc, hr⟩
  have hu : Rbb w (.slice B sh.length d) sh := ⟨B, d, rfl, hd, hs⟩
  have HP := (Blk.new w (planC p) 33).alloc (.cells #[.int .i64 n, .slice A who.length c, .slice B sh.length d] 131)
  have HQ := Blk.new' (w.alloc (.cells (planC p) 33)) #[.int .i64 n, .slice A who.length c, .slice B sh.length d] 131 (World.size_alloc _ _)
  have hB := below_alloc (below_alloc (Below.refl w.heap.size w) (.cells (planC p) 33)) (.cells #[.int .i64 n, .slice A who.length c, .slice B sh.length d] 131)
  have hv := hv.below hB
  have hu := hu.below hB
  go_enter Try.func32, Try.ntmps32
  go_wp2_with fail
  generalize (w.alloc (.cells (planC p) 33)).alloc (.cells #[.int .i64 n, .slice A who.length c, .slice B sh.length d] 131) = w1 at *
  obtain ⟨c0, c1, c2, c3, c4, c5⟩ := cells6 HP; have q0 := HQ.cell 0 _ rfl; have q1 := HQ.cell 1 _ rfl; have q2 := HQ.cell 2 _ rfl
  go_wp2_with fail
  refine (light_c p _).mono ?_
  rintro e w2 ⟨rfl, h2⟩
  rw [hL.out]
  have HP := HP.below h2
  have HQ := HQ.below h2
  have hB := bt_ hB h2
  have hv := hv.below h2
  have hu := hu.below h2
  obtain ⟨c0, c1, c2, c3, c4, c5⟩ := cells6 HP; have q0 := HQ.cell 0 _ rfl; have q1 := HQ.cell 1 _ rfl; have q2 := HQ.cell 2 _ rfl
  clear h2 hr hs
  go_wp2_with fail
  go_loop [6, 31] (fun _ i => ∃ k : Nat, k ≤ sh.length ∧ i = .int .i64 k) (fun _ i => sh.length - (intOf i).toNat)
  case atStart => exact ⟨0, by omega, rfl⟩
  case round =>
    obtain ⟨k, hk, rfl⟩ := hrel
    by_cases hlt : k < sh.length
    · obtain ⟨ad, u5, rfl, d0, hu5⟩ := kbb_at (rk_C hu) k hlt
      generalize sh.getD k [] = r at *
      obtain ⟨A9, c9, rfl⟩ := rk_form hu5
      by_cases hr9 : 250 < r.length
      · have t3 : (250 : Int) < (r.length : Int) := by omega
        go_wp2_with fail
        refine (alive11 _).mono ?_
        rintro e w9 ⟨rfl, h⟩
        have hB := bt_ hB h
        clear h
        go_wp2
        go_ret
        exact ⟨rfl, hB⟩
      · have t3 : decide ((250 : Int) < (r.length : Int)) = false := decide_eq_false (by omega)
        go_wp2
        exact ⟨⟨k + 1, by omega, by go_num⟩, by simp [intOf]; try omega⟩
    · obtain rfl : k = sh.length := by omega
      go_wp2_with fail
      refine (new_x _).mono ?_
      rintro e w3 ⟨bF, rfl, hF, h3⟩
      have HP := HP.below h3
      have HQ := HQ.below h3
      have hB := bt_ hB h3
      have hv := hv.below h3
      have hu := hu.below h3
      obtain ⟨c0, c1, c2, c3, c4, c5⟩ := cells6 HP; have q0 := HQ.cell 0 _ rfl; have q1 := HQ.cell 1 _ rfl; have q2 := HQ.cell 2 _ rfl
      clear h3
      go_wp2_with fail
      refine (rbBlob_ok bF p h n hn K eK.out hK.out _ _ who sh _ hF hv hu hwl.out hch.out).mono ?_
      rintro e w4 ⟨z, rfl, hO, h4⟩
      have hF := hF.below h4
      replace hO := hO.rk
      have HP := HP.below h4
      have HQ := HQ.below h4
      have hB := bt_ hB h4
      have hv := hv.below h4
      have hu := hu.below h4
      obtain ⟨c0, c1, c2, c3, c4, c5⟩ := cells6 HP; have q0 := HQ.cell 0 _ rfl; have q1 := HQ.cell 1 _ rfl; have q2 := HQ.cell 2 _ rfl
      clear h4
      go_wp2_with fail
      refine (rbAgree_ok bF p h n hn K eK.out hK.out _ _ who sh _ hF hv hu hwl.out hch.out).mono ?_
      rintro e w5 ⟨bb, rfl, hbb, h5⟩
      have hO := hO.below h5
      have HP := HP.below h5
      have HQ := HQ.below h5
      have hB := bt_ hB h5
      have hv := hv.below h5
      have hu := hu.below h5
      obtain ⟨c0, c1, c2, c3, c4, c5⟩ := cells6 HP; have q0 := HQ.cell 0 _ rfl; have q1 := HQ.cell 1 _ rfl; have q2 := HQ.cell 2 _ rfl
      clear h5
      go_wp2_with fail
      refine (rCheck11_c p h n hn2.out _ _ who sh _ hv hu (by omega)).mono ?_
      rintro e w6 ⟨rfl, h6⟩
      rw [hch.out]
      have hO := hO.below h6
      have HP := HP.below h6
      have HQ := HQ.below h6
      have hB := bt_ hB h6
      have hv := hv.below h6
      have hu := hu.below h6
      obtain ⟨c0, c1, c2, c3, c4, c5⟩ := cells6 HP; have q0 := HQ.cell 0 _ rfl; have q1 := HQ.cell 1 _ rfl; have q2 := HQ.cell 2 _ rfl
      clear h6
      go_wp2_with fail
      refine (rBlob11_c p h K eK.out n hn _ _ who sh _ hv hu hk1.out hk2.out hk3.out).mono ?_
      rintro e w7 ⟨z2, rfl, hZ, h7⟩
      replace hZ := hZ.rk
      have hO := hO.below h7
      have HP := HP.below h7
      have HQ := HQ.below h7
      have hB := bt_ hB h7
      have hv := hv.below h7
      have hu := hu.below h7
      obtain ⟨c0, c1, c2, c3, c4, c5⟩ := cells6 HP; have q0 := HQ.cell 0 _ rfl; have q1 := HQ.cell 1 _ rfl; have q2 := HQ.cell 2 _ rfl
      clear h7
      rw [hjr.out] at hO
      go_wp2_with fail
      refine (rSame_c _ _ _ _ _ hO hZ).mono ?_
      rintro e w8 ⟨rfl, h8⟩
      rw [decide_eq_true rfl]
      have h8 := h8.below
      have HP := HP.below h8
      have HQ := HQ.below h8
      have hB := bt_ hB h8
      have hv := hv.below h8
      have hu := hu.below h8
      obtain ⟨c0, c1, c2, c3, c4, c5⟩ := cells6 HP; have q0 := HQ.cell 0 _ rfl; have q1 := HQ.cell 1 _ rfl; have q2 := HQ.cell 2 _ rfl
      clear h8 hO hZ
      go_wp2_with fail
      refine (rAgree11_c p h K eK.out (F.nS p.L.toNat n) hns.out _ _ who sh _ hv hu hwl.out hk1.out hk4.out hk3.out).mono ?_
      rintro e w9 ⟨b2, rfl, hb2, h9⟩
      obtain rfl : b2 = bb := by
        have := hag.out
        cases b2 <;> cases bb <;> simp_all
      have hB := bt_ hB h9
      go_wp2_with fail
      refine (alive11 _).mono ?_
      rintro e w9 ⟨rfl, h⟩
      have hB := bt_ hB h
      clear h
      go_wp2
      go_ret
      exact ⟨rfl, hB⟩
theorem RebuildBlobs_walk (w : World) (N : Int) (hN : -9223372036854775808 ≤ N ∧ N ≤ 9223372036854775807) (T : Int) (hT : -9223372036854775808 ≤ T ∧ T ≤ 9223372036854775807) (L : Int) (hL : -9223372036854775808 ≤ L ∧ L ≤ 9223372036854775807) (W : Int) (hW : -9223372036854775808 ≤ W ∧ W ≤ 9223372036854775807) (S : Int) (hS : -9223372036854775808 ≤ S ∧ S ≤ 9223372036854775807) (R : Int) (hR : -9223372036854775808 ≤ R ∧ R ≤ 9223372036854775807) (n : Int) (hn : -9223372036854775808 ≤ n ∧ n ≤ 9223372036854775807)
   (v : Value) (who : List Int) (hv : Ri w v who) (hq : ∀ y ∈ who, -9223372036854775808 ≤ y ∧ y ≤ 9223372036854775807) (u : Value) (sh : List (List F)) (hu : Rbb w u sh) :
   Calls Try.prog 32 #[.agg #[.int .i64 N, .int .i64 T, .int .i64 L, .int .i64 W, .int .i64 S, .int .i64 R], .agg #[.int .i64 n, v, u]] w fun e w' => e = .returned (.bool true) ∧ Below w.heap.size w w' := by
  by_cases hf : Lite ⟨N, T, L, W, S, R⟩ ∧ who.length ≤ 14 ∧ sh.length ≤ 14
  · obtain ⟨hLt, b1, b2⟩ := hf
    by_cases h : (Pl.mk N T L W S R).Ok
    · by_cases hs : 0 ≤ n ∧ n ≤ 240
      · by_cases ha : chE (Pl.mk N T L W S R) n who sh = 0
        · obtain ⟨k, rfl⟩ := Int.eq_ofNat_of_zero_le hs.1
          exact rebuildBlobs_ok _ h k (by omega) v u who sh w hv hu hLt b1 b2 ha
        · exact rebuildBlobs_bad ⟨N, T, L, W, S, R⟩ n _ ha v u who sh w hv hu hLt b1 b2 (fun fv v u w hv hu => rbBlob_bad fv _ h n v u who sh w hv hu ha) (fun fv v u w hv hu => rbAgree_bad fv _ h n v u who sh w hv hu ha) (fun v u w hv hu => rCheck11_c _ h n hs v u who sh w hv hu (by omega))
      · have ha : chE (Pl.mk N T L W S R) n who sh ≠ 0 := by rw [chE_two hs]; decide
        refine rebuildBlobs_bad ⟨N, T, L, W, S, R⟩ n _ ha v u who sh w hv hu hLt b1 b2 (fun fv v u w hv hu => rbBlob_bad fv _ h n v u who sh w hv hu ha) (fun fv v u w hv hu => rbAgree_bad fv _ h n v u who sh w hv hu ha) (fun v u w hv hu => ?_)
        by_cases h0 : n < 0
        · exact rCheck11_two1 _ h n h0 v u who sh w hv hu
        · exact rCheck11_two2 _ h n (by omega) v u who sh w hv hu
    · exact rebuildBlobs_bad ⟨N, T, L, W, S, R⟩ n 1 (by decide) v u who sh w hv hu hLt b1 b2 (fun fv v u w hv hu => rbBlob_no fv _ h n v u who sh w hv hu) (fun fv v u w hv hu => rbAgree_no fv _ h n v u who sh w hv hu) (fun v u w hv hu => rCheck11_no _ ⟨hN, hT, hL, hW, hS, hR⟩ h n v u who sh w hv hu)
  · exact rebuildBlobs_far ⟨N, T, L, W, S, R⟩ n v u who sh w hv hu hf
end Go.Proofs.Ytijeabhfddaoaaa
