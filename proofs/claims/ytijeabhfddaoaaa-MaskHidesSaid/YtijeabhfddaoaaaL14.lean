/- The walks of the laws of layer 14 (masks): the shift. -/
import Derived.Test.YtijeabhfddaoaaaR14c
import Derived.Test.YtijeabhfddaoaaaMc
import Derived.Test.YtijeabhfddaoaaaRz
import Derived.Test.YtijeabhfddaoaaaK9
namespace Go.Proofs.Ytijeabhfddaoaaa
set_option linter.unusedVariables false
open Go.RowKit Go.Proofs.YtijeabhfddaoaaaW.PrintWords Go.Proofs.Sh

def twoP4 : Pl := { N := 2, T := 1, L := 1, W := 2, S := 9, R := 1 }
theorem twoP4_ok : twoP4.Ok := ⟨by decide, by decide, by decide, by decide, by decide, by decide, by decide, by decide, by decide⟩
theorem lit_bg {w : World} {g : Nat} (hg : w.heap.size = g) (l : List F) (cs : Array Value) (t : TypeId) (n c : Nat) (h : cs.toList = l.map bV) (hn : n = l.length) (hc : n ≤ c) (hm : n ≤ 9223372036854775807) : Rb (w.alloc (.cells cs t)) (.slice (some ⟨g, 0, none⟩) n c) l := by
  subst hg
  exact lit_b w l cs t n c h hn hc hm
theorem lit_ig {w : World} {g : Nat} (hg : w.heap.size = g) (l : List Int) (cs : Array Value) (t : TypeId) (n c : Nat) (h : cs.toList = l.map (Value.int .i64)) (hn : n = l.length) (hc : n ≤ c) (hm : n ≤ 9223372036854775807) : Ri (w.alloc (.cells cs t)) (.slice (some ⟨g, 0, none⟩) n c) l := by
  subst hg
  exact lit_i w l cs t n c h hn hc hm
set_option maxRecDepth 100000 in
set_option maxHeartbeats 3200000 in
theorem alive14 (w : World) :
   Calls Try.prog 136 #[] w fun e w' => e = .returned (.bool true) ∧ Below w.heap.size w w' := by
  have E1 : Hid (shOf twoP4 [F.of 4] [1] = [F.of 0, F.of 2]) := Lib.hid (by decide +kernel)
  have E2 : Hid (dealM twoP4 [F.of 4] [F.of 0, F.of 2] = [F.of 2]) := Lib.hid (by decide +kernel)
  have E3 : Hid (apM [F.of 1, F.of 2] 1 [F.of 3, F.of 4] = [F.of 1, F.of 1]) := Lib.hid (by decide +kernel)
  have AP : Hid (∀ (v u : Value) (w : World), Rb w v [F.of 1, F.of 2] → Rb w u [F.of 3, F.of 4] → Calls Try.prog 143 #[v, .int .i64 1, u] w fun e w' => ∃ z, e = .returned z ∧ Ob w w' z [F.of 1, F.of 1] ∧ Below w.heap.size w w') := Lib.hid (fun v u w hv hu => by
    have h := mApply_in v u [F.of 1, F.of 2] [F.of 3, F.of 4] 1 w hv hu (by decide) (by decide)
    rw [show apM [F.of 1, F.of 2] ((1 : Nat) : Int) [F.of 3, F.of 4] = [F.of 1, F.of 1] from E3.out] at h
    exact h)
  have HP := Blk.new w #[.int .i64 2, .int .i64 1, .int .i64 1, .int .i64 2, .int .i64 9, .int .i64 1] 33
  have hB0 := below_alloc (Below.refl w.heap.size w) (.cells #[.int .i64 2, .int .i64 1, .int .i64 1, .int .i64 2, .int .i64 9, .int .i64 1] 33)
  go_enter Try.func136, Try.ntmps136
  go_wp2_with fail
  generalize w.alloc (.cells #[.int .i64 2, .int .i64 1, .int .i64 1, .int .i64 2, .int .i64 9, .int .i64 1] 33) = w1 at *
  go_wp2_with fail
  refine wp_region_say [(isF), (isV (planV twoP4)), (isB [F.of 4]), (isI [1]), (isTB [F.of 0, F.of 2] (.int .i64 0)), (isTB [F.of 0, F.of 2] (.int .i64 0)), (isB [F.of 0, F.of 2]), (isV (.int .i64 0)), (isB [F.of 0, F.of 2]), (isV (.int .i64 0))] [(0, some 6), (1, some 7), (2, some 8), (3, some 9), (4, some 10), (5, some 5), (6, some 11), (7, some 12), (8, some 2), (9, some 3)] (by kernel_rfl) (by kernel_rfl) (by kernel_rfl) ⟨last_F, last_V _, last_B _, last_I _, last_TB _ _, last_TB _ _, last_B _, last_V _, last_B _, last_V _, trivial⟩ ⟨?s0, ?s1, ?s2, ?s3, ?s4, ?s5, ?s6, ?s7, ?s8, ?s9, trivial⟩ ?hQ
  case s0 =>
    refine famStep_of [] (by kernel_rfl) ?_
    intro W hB K hK
    simp only [Act.put, List.setIfInBounds_toArray, List.set_cons_zero, List.set_cons_succ] at hK ⊢
    obtain ⟨c0, c1, c2, c3, c4, c5⟩ := cells6 (HP.below hB)
    go_simp
    go_at_call 38; refine (new_x _).mono ?_; rintro e w6 ⟨bF, rfl, hF, h6⟩; exact hK _ _ ⟨_, rfl, hF⟩ h6
  case s1 =>
    refine famStep_of [] (by kernel_rfl) ?_
    intro W hB K hK
    simp only [Act.put, List.setIfInBounds_toArray, List.set_cons_zero, List.set_cons_succ] at hK ⊢
    obtain ⟨c0, c1, c2, c3, c4, c5⟩ := cells6 (HP.below hB)
    go_simp
    exact hK _ _ rfl (Below.refl _ _)
  case s2 =>
    refine famStep_of [] (by kernel_rfl) ?_
    intro W hB K hK
    simp only [Act.put, List.setIfInBounds_toArray, List.set_cons_zero, List.set_cons_succ] at hK ⊢
    obtain ⟨c0, c1, c2, c3, c4, c5⟩ := cells6 (HP.below hB)
    go_simp
    exact hK _ _ (lit_b W [F.of 4] _ _ _ _ rfl rfl (by decide) (by decide)) (alloc_b _ _)
  case s3 =>
    refine famStep_of [] (by kernel_rfl) ?_
    intro W hB K hK
    simp only [Act.put, List.setIfInBounds_toArray, List.set_cons_zero, List.set_cons_succ] at hK ⊢
    obtain ⟨c0, c1, c2, c3, c4, c5⟩ := cells6 (HP.below hB)
    go_simp
    exact hK _ _ (lit_i W [1] _ _ _ _ rfl rfl (by decide) (by decide)) (alloc_b _ _)
  case s4 =>
    refine famStep_of [(0, some 6), (1, some 7), (2, some 8), (3, some 9)] (by kernel_rfl) ?_
    intro W hB v0 h0 v1 h1 v2 h2 v3 h3 K hK
    obtain ⟨b0, rfl, h0⟩ := h0
    obtain rfl : v1 = (planV twoP4) := h1
    replace h2 : Rb W v2 [F.of 4] := h2
    replace h3 : Ri W v3 [1] := h3
    simp only [Act.put, List.setIfInBounds_toArray, List.set_cons_zero, List.set_cons_succ] at hK ⊢
    obtain ⟨c0, c1, c2, c3, c4, c5⟩ := cells6 (HP.below hB)
    go_simp
    go_at_call 137; refine (mShift_ok _ twoP4 twoP4_ok (by decide) _ _ [F.of 4] [1] _ h0 h2 h3 (by decide)).mono ?_; rintro e w6 ⟨vZ, rfl, sZ, h6⟩; replace sZ := sZ.rk; rw [E1.out] at sZ; exact hK _ _ ⟨_, rfl, sZ⟩ h6
  case s5 =>
    refine famStep_of [(4, some 10)] (by kernel_rfl) ?_
    intro W hB v4 h4 K hK
    obtain ⟨z4, rfl, h4⟩ := h4
    simp only [Act.put, List.setIfInBounds_toArray, List.set_cons_zero, List.set_cons_succ] at hK ⊢
    obtain ⟨c0, c1, c2, c3, c4, c5⟩ := cells6 (HP.below hB)
    go_simp
    exact hK _ _ ⟨_, rfl, h4⟩ (Below.refl _ _)
  case s6 =>
    refine famStep_of [(5, some 5)] (by kernel_rfl) ?_
    intro W hB v5 h5 K hK
    obtain ⟨z5, rfl, h5⟩ := h5
    simp only [Act.put, List.setIfInBounds_toArray, List.set_cons_zero, List.set_cons_succ] at hK ⊢
    obtain ⟨c0, c1, c2, c3, c4, c5⟩ := cells6 (HP.below hB)
    go_simp
    exact hK _ _ h5 (Below.refl _ _)
  case s7 =>
    refine famStep_of [(5, some 5)] (by kernel_rfl) ?_
    intro W hB v5 h5 K hK
    obtain ⟨z5, rfl, h5⟩ := h5
    simp only [Act.put, List.setIfInBounds_toArray, List.set_cons_zero, List.set_cons_succ] at hK ⊢
    obtain ⟨c0, c1, c2, c3, c4, c5⟩ := cells6 (HP.below hB)
    go_simp
    exact hK _ _ rfl (Below.refl _ _)
  case s8 =>
    refine famStep_of [(6, some 11)] (by kernel_rfl) ?_
    intro W hB v6 h6 K hK
    replace h6 : Rb W v6 [F.of 0, F.of 2] := h6
    simp only [Act.put, List.setIfInBounds_toArray, List.set_cons_zero, List.set_cons_succ] at hK ⊢
    obtain ⟨c0, c1, c2, c3, c4, c5⟩ := cells6 (HP.below hB)
    go_simp
    exact hK _ _ h6 (Below.refl _ _)
  case s9 =>
    refine famStep_of [(7, some 12)] (by kernel_rfl) ?_
    intro W hB v7 h7 K hK
    obtain rfl : v7 = (.int .i64 0) := h7
    simp only [Act.put, List.setIfInBounds_toArray, List.set_cons_zero, List.set_cons_succ] at hK ⊢
    obtain ⟨c0, c1, c2, c3, c4, c5⟩ := cells6 (HP.below hB)
    go_simp
    exact hK _ _ rfl (Below.refl _ _)
  case hQ =>
    intro W hB v0 h0 v1 h1 v2 h2 v3 h3 v4 h4 v5 h5 v6 h6 v7 h7 v8 h8 v9 h9
    obtain ⟨b0, rfl, h0⟩ := h0
    obtain rfl : v1 = (planV twoP4) := h1
    replace h2 : Rb W v2 [F.of 4] := h2
    replace h3 : Ri W v3 [1] := h3
    obtain ⟨z4, rfl, h4⟩ := h4
    obtain ⟨z5, rfl, h5⟩ := h5
    replace h6 : Rb W v6 [F.of 0, F.of 2] := h6
    obtain rfl : v7 = (.int .i64 0) := h7
    replace h8 : Rb W v8 [F.of 0, F.of 2] := h8
    obtain rfl : v9 = (.int .i64 0) := h9
    simp only [famGo, Act.put, List.setIfInBounds_toArray, List.set_cons_zero, List.set_cons_succ]
    replace hB0 := bt_ hB0 hB
    replace HP := HP.below hB
    have hs := h8
    clear h0 h2 h3 h4 h5 h6 h8 hB
    go_wp2_with fail
    refine wp_region_say [(isV (.int .i64 0)), (isV (.bool true)), (isV (.bool true)), (isB [F.of 0, F.of 2]), (isB [F.of 0, F.of 2]), (isV (.bool true)), (isV (.bool true)), (isV (.bool true)), (isF), (isV (planV twoP4)), (isB [F.of 4]), (isB [F.of 0, F.of 2]), (isB [F.of 2]), (isB [F.of 2]), (isV (.bool true)), (isV (.bool true)), (isV (.bool true)), (isB [F.of 1, F.of 2]), (isB [F.of 3, F.of 4]), (isB [F.of 1, F.of 1]), (isB [F.of 1, F.of 1]), (isV (.bool true)), (isV (.bool true)), (isV (.bool true))] [(0, some 13), (1, some 14), (2, some 15), (3, some 16), (4, some 17), (5, some 18), (6, some 19), (7, some 20), (8, some 21), (9, some 22), (10, some 23), (11, some 24), (12, some 25), (13, some 26), (14, some 27), (15, some 28), (16, some 29), (17, some 30), (18, some 31), (19, some 32), (20, some 33), (21, some 34), (22, some 35), (23, some 0)] (by kernel_rfl) (by kernel_rfl) (by kernel_rfl) ⟨last_V _, last_V _, last_V _, last_B _, last_B _, last_V _, last_V _, last_V _, last_F, last_V _, last_B _, last_B _, last_B _, last_B _, last_V _, last_V _, last_V _, last_B _, last_B _, last_B _, last_B _, last_V _, last_V _, last_V _, trivial⟩ ⟨?s0, ?s1, ?s2, ?s3, ?s4, ?s5, ?s6, ?s7, ?s8, ?s9, ?s10, ?s11, ?s12, ?s13, ?s14, ?s15, ?s16, ?s17, ?s18, ?s19, ?s20, ?s21, ?s22, ?s23, trivial⟩ ?hQ
    case s0 =>
      refine famStep_of [] (by kernel_rfl) ?_
      intro W hB K hK
      simp only [Act.put, List.setIfInBounds_toArray, List.set_cons_zero, List.set_cons_succ] at hK ⊢
      obtain ⟨c0, c1, c2, c3, c4, c5⟩ := cells6 (HP.below hB)
      go_simp
      exact hK _ _ rfl (Below.refl _ _)
    case s1 =>
      refine famStep_of [(0, some 13)] (by kernel_rfl) ?_
      intro W hB v0 h0 K hK
      obtain rfl : v0 = (.int .i64 0) := h0
      simp only [Act.put, List.setIfInBounds_toArray, List.set_cons_zero, List.set_cons_succ] at hK ⊢
      obtain ⟨c0, c1, c2, c3, c4, c5⟩ := cells6 (HP.below hB)
      go_simp
      exact hK _ _ rfl (Below.refl _ _)
    case s2 =>
      refine famStep_of [(1, some 14)] (by kernel_rfl) ?_
      intro W hB v1 h1 K hK
      obtain rfl : v1 = (.bool true) := h1
      simp only [Act.put, List.setIfInBounds_toArray, List.set_cons_zero, List.set_cons_succ] at hK ⊢
      obtain ⟨c0, c1, c2, c3, c4, c5⟩ := cells6 (HP.below hB)
      go_simp
      exact hK _ _ rfl (Below.refl _ _)
    case s3 =>
      refine famStep_of [(2, some 15)] (by kernel_rfl) ?_
      intro W hB v2 h2 K hK
      obtain rfl : v2 = (.bool true) := h2
      simp only [Act.put, List.setIfInBounds_toArray, List.set_cons_zero, List.set_cons_succ] at hK ⊢
      obtain ⟨c0, c1, c2, c3, c4, c5⟩ := cells6 (HP.below hB)
      go_simp
      exact hK _ _ (hs.below hB) (Below.refl _ _)
    case s4 =>
      refine famStep_of [(2, some 15)] (by kernel_rfl) ?_
      intro W hB v2 h2 K hK
      obtain rfl : v2 = (.bool true) := h2
      simp only [Act.put, List.setIfInBounds_toArray, List.set_cons_zero, List.set_cons_succ] at hK ⊢
      obtain ⟨c0, c1, c2, c3, c4, c5⟩ := cells6 (HP.below hB)
      go_simp
      exact hK _ _ (lit_b W [F.of 0, F.of 2] _ _ _ _ rfl rfl (by decide) (by decide)) (alloc_b _ _)
    case s5 =>
      refine famStep_of [(2, some 15), (3, some 16), (4, some 17)] (by kernel_rfl) ?_
      intro W hB v2 h2 v3 h3 v4 h4 K hK
      obtain rfl : v2 = (.bool true) := h2
      replace h3 : Rb W v3 [F.of 0, F.of 2] := h3
      replace h4 : Rb W v4 [F.of 0, F.of 2] := h4
      simp only [Act.put, List.setIfInBounds_toArray, List.set_cons_zero, List.set_cons_succ] at hK ⊢
      obtain ⟨c0, c1, c2, c3, c4, c5⟩ := cells6 (HP.below hB)
      go_simp
      go_at_call 60; refine (rSame_c _ _ [F.of 0, F.of 2] [F.of 0, F.of 2] _ h3 h4).mono ?_; rintro e w6 ⟨rfl, h6⟩; rw [decide_eq_true (rfl : [F.of 0, F.of 2] = [F.of 0, F.of 2])]; exact hK _ _ rfl h6.below
    case s6 =>
      refine famStep_of [(2, some 15), (5, some 18)] (by kernel_rfl) ?_
      intro W hB v2 h2 v5 h5 K hK
      obtain rfl : v2 = (.bool true) := h2
      obtain rfl : v5 = (.bool true) := h5
      simp only [Act.put, List.setIfInBounds_toArray, List.set_cons_zero, List.set_cons_succ] at hK ⊢
      obtain ⟨c0, c1, c2, c3, c4, c5⟩ := cells6 (HP.below hB)
      go_simp
      exact hK _ _ rfl (Below.refl _ _)
    case s7 =>
      refine famStep_of [(6, some 19)] (by kernel_rfl) ?_
      intro W hB v6 h6 K hK
      obtain rfl : v6 = (.bool true) := h6
      simp only [Act.put, List.setIfInBounds_toArray, List.set_cons_zero, List.set_cons_succ] at hK ⊢
      obtain ⟨c0, c1, c2, c3, c4, c5⟩ := cells6 (HP.below hB)
      go_simp
      exact hK _ _ rfl (Below.refl _ _)
    case s8 =>
      refine famStep_of [(7, some 20)] (by kernel_rfl) ?_
      intro W hB v7 h7 K hK
      obtain rfl : v7 = (.bool true) := h7
      simp only [Act.put, List.setIfInBounds_toArray, List.set_cons_zero, List.set_cons_succ] at hK ⊢
      obtain ⟨c0, c1, c2, c3, c4, c5⟩ := cells6 (HP.below hB)
      go_simp
      go_at_call 38; refine (new_x _).mono ?_; rintro e w6 ⟨bF, rfl, hF, h6⟩; exact hK _ _ ⟨_, rfl, hF⟩ h6
    case s9 =>
      refine famStep_of [(7, some 20)] (by kernel_rfl) ?_
      intro W hB v7 h7 K hK
      obtain rfl : v7 = (.bool true) := h7
      simp only [Act.put, List.setIfInBounds_toArray, List.set_cons_zero, List.set_cons_succ] at hK ⊢
      obtain ⟨c0, c1, c2, c3, c4, c5⟩ := cells6 (HP.below hB)
      go_simp
      exact hK _ _ rfl (Below.refl _ _)
    case s10 =>
      refine famStep_of [(7, some 20)] (by kernel_rfl) ?_
      intro W hB v7 h7 K hK
      obtain rfl : v7 = (.bool true) := h7
      simp only [Act.put, List.setIfInBounds_toArray, List.set_cons_zero, List.set_cons_succ] at hK ⊢
      obtain ⟨c0, c1, c2, c3, c4, c5⟩ := cells6 (HP.below hB)
      go_simp
      exact hK _ _ (lit_b W [F.of 4] _ _ _ _ rfl rfl (by decide) (by decide)) (alloc_b _ _)
    case s11 =>
      refine famStep_of [(7, some 20)] (by kernel_rfl) ?_
      intro W hB v7 h7 K hK
      obtain rfl : v7 = (.bool true) := h7
      simp only [Act.put, List.setIfInBounds_toArray, List.set_cons_zero, List.set_cons_succ] at hK ⊢
      obtain ⟨c0, c1, c2, c3, c4, c5⟩ := cells6 (HP.below hB)
      go_simp
      exact hK _ _ (hs.below hB) (Below.refl _ _)
    case s12 =>
      refine famStep_of [(7, some 20), (8, some 21), (9, some 22), (10, some 23), (11, some 24)] (by kernel_rfl) ?_
      intro W hB v7 h7 v8 h8 v9 h9 v10 h10 v11 h11 K hK
      obtain rfl : v7 = (.bool true) := h7
      obtain ⟨b8, rfl, h8⟩ := h8
      obtain rfl : v9 = (planV twoP4) := h9
      replace h10 : Rb W v10 [F.of 4] := h10
      replace h11 : Rb W v11 [F.of 0, F.of 2] := h11
      simp only [Act.put, List.setIfInBounds_toArray, List.set_cons_zero, List.set_cons_succ] at hK ⊢
      obtain ⟨c0, c1, c2, c3, c4, c5⟩ := cells6 (HP.below hB)
      go_simp
      go_at_call 140; refine (mDeal_c _ twoP4 twoP4_ok _ _ [F.of 4] [F.of 0, F.of 2] _ h8 h10 h11 (by decide)).mono ?_; rintro e w6 ⟨vM, rfl, oM, h6⟩; replace oM := oM.rk; rw [E2.out] at oM; exact hK _ _ oM h6
    case s13 =>
      refine famStep_of [(7, some 20)] (by kernel_rfl) ?_
      intro W hB v7 h7 K hK
      obtain rfl : v7 = (.bool true) := h7
      simp only [Act.put, List.setIfInBounds_toArray, List.set_cons_zero, List.set_cons_succ] at hK ⊢
      obtain ⟨c0, c1, c2, c3, c4, c5⟩ := cells6 (HP.below hB)
      go_simp
      exact hK _ _ (lit_b W [F.of 2] _ _ _ _ rfl rfl (by decide) (by decide)) (alloc_b _ _)
    case s14 =>
      refine famStep_of [(7, some 20), (12, some 25), (13, some 26)] (by kernel_rfl) ?_
      intro W hB v7 h7 v12 h12 v13 h13 K hK
      obtain rfl : v7 = (.bool true) := h7
      replace h12 : Rb W v12 [F.of 2] := h12
      replace h13 : Rb W v13 [F.of 2] := h13
      simp only [Act.put, List.setIfInBounds_toArray, List.set_cons_zero, List.set_cons_succ] at hK ⊢
      obtain ⟨c0, c1, c2, c3, c4, c5⟩ := cells6 (HP.below hB)
      go_simp
      go_at_call 60; refine (rSame_c _ _ [F.of 2] [F.of 2] _ h12 h13).mono ?_; rintro e w6 ⟨rfl, h6⟩; rw [decide_eq_true (rfl : [F.of 2] = [F.of 2])]; exact hK _ _ rfl h6.below
    case s15 =>
      refine famStep_of [(7, some 20), (14, some 27)] (by kernel_rfl) ?_
      intro W hB v7 h7 v14 h14 K hK
      obtain rfl : v7 = (.bool true) := h7
      obtain rfl : v14 = (.bool true) := h14
      simp only [Act.put, List.setIfInBounds_toArray, List.set_cons_zero, List.set_cons_succ] at hK ⊢
      obtain ⟨c0, c1, c2, c3, c4, c5⟩ := cells6 (HP.below hB)
      go_simp
      exact hK _ _ rfl (Below.refl _ _)
    case s16 =>
      refine famStep_of [(15, some 28)] (by kernel_rfl) ?_
      intro W hB v15 h15 K hK
      obtain rfl : v15 = (.bool true) := h15
      simp only [Act.put, List.setIfInBounds_toArray, List.set_cons_zero, List.set_cons_succ] at hK ⊢
      obtain ⟨c0, c1, c2, c3, c4, c5⟩ := cells6 (HP.below hB)
      go_simp
      exact hK _ _ rfl (Below.refl _ _)
    case s17 =>
      refine famStep_of [(16, some 29)] (by kernel_rfl) ?_
      intro W hB v16 h16 K hK
      obtain rfl : v16 = (.bool true) := h16
      simp only [Act.put, List.setIfInBounds_toArray, List.set_cons_zero, List.set_cons_succ] at hK ⊢
      obtain ⟨c0, c1, c2, c3, c4, c5⟩ := cells6 (HP.below hB)
      go_simp
      exact hK _ _ (lit_b W [F.of 1, F.of 2] _ _ _ _ rfl rfl (by decide) (by decide)) (alloc_b _ _)
    case s18 =>
      refine famStep_of [(16, some 29)] (by kernel_rfl) ?_
      intro W hB v16 h16 K hK
      obtain rfl : v16 = (.bool true) := h16
      simp only [Act.put, List.setIfInBounds_toArray, List.set_cons_zero, List.set_cons_succ] at hK ⊢
      obtain ⟨c0, c1, c2, c3, c4, c5⟩ := cells6 (HP.below hB)
      go_simp
      exact hK _ _ (lit_b W [F.of 3, F.of 4] _ _ _ _ rfl rfl (by decide) (by decide)) (alloc_b _ _)
    case s19 =>
      refine famStep_of [(16, some 29), (17, some 30), (18, some 31)] (by kernel_rfl) ?_
      intro W hB v16 h16 v17 h17 v18 h18 K hK
      obtain rfl : v16 = (.bool true) := h16
      replace h17 : Rb W v17 [F.of 1, F.of 2] := h17
      replace h18 : Rb W v18 [F.of 3, F.of 4] := h18
      simp only [Act.put, List.setIfInBounds_toArray, List.set_cons_zero, List.set_cons_succ] at hK ⊢
      obtain ⟨c0, c1, c2, c3, c4, c5⟩ := cells6 (HP.below hB)
      go_simp
      go_at_call 143; refine (AP.out _ _ _ h17 h18).mono ?_; rintro e w6 ⟨vA, rfl, oA, h6⟩; exact hK _ _ oA.rk h6
    case s20 =>
      refine famStep_of [(16, some 29)] (by kernel_rfl) ?_
      intro W hB v16 h16 K hK
      obtain rfl : v16 = (.bool true) := h16
      simp only [Act.put, List.setIfInBounds_toArray, List.set_cons_zero, List.set_cons_succ] at hK ⊢
      obtain ⟨c0, c1, c2, c3, c4, c5⟩ := cells6 (HP.below hB)
      go_simp
      exact hK _ _ (lit_b W [F.of 1, F.of 1] _ _ _ _ rfl rfl (by decide) (by decide)) (alloc_b _ _)
    case s21 =>
      refine famStep_of [(16, some 29), (19, some 32), (20, some 33)] (by kernel_rfl) ?_
      intro W hB v16 h16 v19 h19 v20 h20 K hK
      obtain rfl : v16 = (.bool true) := h16
      replace h19 : Rb W v19 [F.of 1, F.of 1] := h19
      replace h20 : Rb W v20 [F.of 1, F.of 1] := h20
      simp only [Act.put, List.setIfInBounds_toArray, List.set_cons_zero, List.set_cons_succ] at hK ⊢
      obtain ⟨c0, c1, c2, c3, c4, c5⟩ := cells6 (HP.below hB)
      go_simp
      go_at_call 60; refine (rSame_c _ _ [F.of 1, F.of 1] [F.of 1, F.of 1] _ h19 h20).mono ?_; rintro e w6 ⟨rfl, h6⟩; rw [decide_eq_true (rfl : [F.of 1, F.of 1] = [F.of 1, F.of 1])]; exact hK _ _ rfl h6.below
    case s22 =>
      refine famStep_of [(16, some 29), (21, some 34)] (by kernel_rfl) ?_
      intro W hB v16 h16 v21 h21 K hK
      obtain rfl : v16 = (.bool true) := h16
      obtain rfl : v21 = (.bool true) := h21
      simp only [Act.put, List.setIfInBounds_toArray, List.set_cons_zero, List.set_cons_succ] at hK ⊢
      obtain ⟨c0, c1, c2, c3, c4, c5⟩ := cells6 (HP.below hB)
      go_simp
      exact hK _ _ rfl (Below.refl _ _)
    case s23 =>
      refine famStep_of [(22, some 35)] (by kernel_rfl) ?_
      intro W hB v22 h22 K hK
      obtain rfl : v22 = (.bool true) := h22
      simp only [Act.put, List.setIfInBounds_toArray, List.set_cons_zero, List.set_cons_succ] at hK ⊢
      obtain ⟨c0, c1, c2, c3, c4, c5⟩ := cells6 (HP.below hB)
      go_simp
      exact hK _ _ rfl (Below.refl _ _)
    case hQ =>
      intro W hB v0 h0 v1 h1 v2 h2 v3 h3 v4 h4 v5 h5 v6 h6 v7 h7 v8 h8 v9 h9 v10 h10 v11 h11 v12 h12 v13 h13 v14 h14 v15 h15 v16 h16 v17 h17 v18 h18 v19 h19 v20 h20 v21 h21 v22 h22 v23 h23
      obtain rfl : v0 = (.int .i64 0) := h0
      obtain rfl : v1 = (.bool true) := h1
      obtain rfl : v2 = (.bool true) := h2
      replace h3 : Rb W v3 [F.of 0, F.of 2] := h3
      replace h4 : Rb W v4 [F.of 0, F.of 2] := h4
      obtain rfl : v5 = (.bool true) := h5
      obtain rfl : v6 = (.bool true) := h6
      obtain rfl : v7 = (.bool true) := h7
      obtain ⟨b8, rfl, h8⟩ := h8
      obtain rfl : v9 = (planV twoP4) := h9
      replace h10 : Rb W v10 [F.of 4] := h10
      replace h11 : Rb W v11 [F.of 0, F.of 2] := h11
      replace h12 : Rb W v12 [F.of 2] := h12
      replace h13 : Rb W v13 [F.of 2] := h13
      obtain rfl : v14 = (.bool true) := h14
      obtain rfl : v15 = (.bool true) := h15
      obtain rfl : v16 = (.bool true) := h16
      replace h17 : Rb W v17 [F.of 1, F.of 2] := h17
      replace h18 : Rb W v18 [F.of 3, F.of 4] := h18
      replace h19 : Rb W v19 [F.of 1, F.of 1] := h19
      replace h20 : Rb W v20 [F.of 1, F.of 1] := h20
      obtain rfl : v21 = (.bool true) := h21
      obtain rfl : v22 = (.bool true) := h22
      obtain rfl : v23 = (.bool true) := h23
      simp only [famGo, Act.put, List.setIfInBounds_toArray, List.set_cons_zero, List.set_cons_succ]
      go_wp2
      go_ret
      exact ⟨rfl, bt_ hB0 hB⟩
end Go.Proofs.Ytijeabhfddaoaaa
