/- The walks of the laws of layer 10 (deal): the example, DealShares. -/
import Derived.Test.YtijeabhfddaoaaaDe
import Derived.Test.YtijeabhfddaoaaaRz
namespace Go.Proofs.Ytijeabhfddaoaaa
set_option linter.unusedVariables false
open Go.RowKit Go.Proofs.YtijeabhfddaoaaaW.PrintWords Go.Proofs.Sh

def twoP0 : Pl := { N := 2, T := 1, L := 1, W := 2, S := 9, R := 1 }
theorem twoP0_ok : twoP0.Ok := ⟨by decide, by decide, by decide, by decide, by decide, by decide, by decide, by decide, by decide⟩
set_option maxRecDepth 100000 in
set_option maxHeartbeats 3200000 in
theorem alive10 (w : World) :
   Calls Try.prog 124 #[] w fun e w' => e = .returned (.bool true) ∧ Below w.heap.size w w' := by
  have E1 : Hid (shs twoP0 [F.of 7] [F.of 5] 0 = [F.of 13]) := Lib.hid (by decide +kernel)
  have E2 : Hid (shs twoP0 [F.of 7] [F.of 5] 1 = [F.of 8]) := Lib.hid (by decide +kernel)
  have HP := Blk.new w #[.int .i64 2, .int .i64 1, .int .i64 1, .int .i64 2, .int .i64 9, .int .i64 1] 33
  have hB0 := below_alloc (Below.refl w.heap.size w) (.cells #[.int .i64 2, .int .i64 1, .int .i64 1, .int .i64 2, .int .i64 9, .int .i64 1] 33)
  go_enter Try.func124, Try.ntmps124
  go_wp2_with fail
  generalize w.alloc (.cells #[.int .i64 2, .int .i64 1, .int .i64 1, .int .i64 2, .int .i64 9, .int .i64 1] 33) = w1 at *
  go_wp2_with fail
  refine wp_region_tell [.p (isF), .v (planV twoP0), .p (isB [F.of 7]), .p (isB [F.of 5]), .p (isTRw w1 2 (shs twoP0 [F.of 7] [F.of 5])), .p (isTRw w1 2 (shs twoP0 [F.of 7] [F.of 5])), .p (isRw w1 2 (shs twoP0 [F.of 7] [F.of 5])), .v (.int .i64 0), .p (isRw w1 2 (shs twoP0 [F.of 7] [F.of 5])), .v (.int .i64 0)] [([], none), ([], none), ([], none), ([], none), ([(0, some 6), (1, some 7), (2, some 8), (3, some 9)], none), ([(4, some 10)], none), ([(5, some 5)], none), ([(5, some 5)], none), ([(6, some 11)], none), ([(7, some 12)], none)] [(0, some 6), (1, some 7), (2, some 8), (3, some 9), (4, some 10), (5, some 5), (6, some 11), (7, some 12), (8, some 2), (9, some 3)] (by kernel_rfl) (by kernel_rfl) (by kernel_rfl) (by kernel_rfl) (by exact ⟨last_F, trivial, last_B _, last_B _, last_TRw _ _ _, last_TRw _ _ _, last_Rw _ _ _, trivial, last_Rw _ _ _, trivial, trivial⟩) ⟨?s0, ?s1, ?s2, ?s3, ?s4, ?s5, ?s6, ?s7, ?s8, ?s9, trivial⟩ ?hQ
  case s0 =>
    intro W hB K hK
    simp only [tellK, Act.put, List.setIfInBounds_toArray, List.set_cons_zero, List.set_cons_succ] at hK ⊢
    refine tell_do rfl ?_
    obtain ⟨c0, c1, c2, c3, c4, c5⟩ := cells6 (HP.below hB)
    go_simp
    go_at_call 38; refine (new_x _).mono ?_; rintro e w6 ⟨bF, rfl, hF, h6⟩; exact hK _ _ ⟨_, rfl, hF⟩ h6
  case s1 =>
    intro W hB K hK
    simp only [tellK, Act.put, List.setIfInBounds_toArray, List.set_cons_zero, List.set_cons_succ] at hK ⊢
    refine tell_do rfl ?_
    obtain ⟨c0, c1, c2, c3, c4, c5⟩ := cells6 (HP.below hB)
    go_simp
    exact hK _ (Below.refl _ _)
  case s2 =>
    intro W hB K hK
    simp only [tellK, Act.put, List.setIfInBounds_toArray, List.set_cons_zero, List.set_cons_succ] at hK ⊢
    refine tell_do rfl ?_
    obtain ⟨c0, c1, c2, c3, c4, c5⟩ := cells6 (HP.below hB)
    go_simp
    exact hK _ _ (lit_b W [F.of 7] _ _ _ _ rfl rfl (by decide) (by decide)) (alloc_b _ _)
  case s3 =>
    intro W hB K hK
    simp only [tellK, Act.put, List.setIfInBounds_toArray, List.set_cons_zero, List.set_cons_succ] at hK ⊢
    refine tell_do rfl ?_
    obtain ⟨c0, c1, c2, c3, c4, c5⟩ := cells6 (HP.below hB)
    go_simp
    exact hK _ _ (lit_b W [F.of 5] _ _ _ _ rfl rfl (by decide) (by decide)) (alloc_b _ _)
  case s4 =>
    intro W hB v0 h0 v2 h2 v3 h3 K hK
    obtain ⟨b0, rfl, h0⟩ := h0
    replace h2 : Rb W v2 [F.of 7] := h2
    replace h3 : Rb W v3 [F.of 5] := h3
    simp only [tellK, Act.put, List.setIfInBounds_toArray, List.set_cons_zero, List.set_cons_succ] at hK ⊢
    refine tell_do rfl ?_
    obtain ⟨c0, c1, c2, c3, c4, c5⟩ := cells6 (HP.below hB)
    go_simp
    go_at_call 126; refine (dDeal_ok _ twoP0 twoP0_ok _ _ [F.of 7] [F.of 5] _ h0 h2 h3 (by decide) (by decide)).mono ?_; rintro e w6 ⟨g, vs, rfl, hR, h6⟩; exact hK _ _ ⟨g, vs, rfl, hR.lower hB⟩ h6
  case s5 =>
    intro W hB v4 h4 K hK
    simp only [tellK, Act.put, List.setIfInBounds_toArray, List.set_cons_zero, List.set_cons_succ] at hK ⊢
    refine tell_do rfl ?_
    obtain ⟨c0, c1, c2, c3, c4, c5⟩ := cells6 (HP.below hB)
    obtain ⟨g, vs, rfl, hR⟩ := h4; go_simp; exact hK _ _ ⟨g, vs, rfl, hR⟩ (Below.refl _ _)
  case s6 =>
    intro W hB v5 h5 K hK
    simp only [tellK, Act.put, List.setIfInBounds_toArray, List.set_cons_zero, List.set_cons_succ] at hK ⊢
    refine tell_do rfl ?_
    obtain ⟨c0, c1, c2, c3, c4, c5⟩ := cells6 (HP.below hB)
    obtain ⟨g, vs, rfl, hR⟩ := h5; go_simp; exact hK _ _ ⟨g, vs, rfl, hR⟩ (Below.refl _ _)
  case s7 =>
    intro W hB v5 h5 K hK
    simp only [tellK, Act.put, List.setIfInBounds_toArray, List.set_cons_zero, List.set_cons_succ] at hK ⊢
    refine tell_do rfl ?_
    obtain ⟨c0, c1, c2, c3, c4, c5⟩ := cells6 (HP.below hB)
    obtain ⟨g, vs, rfl, hR⟩ := h5; go_simp; exact hK _ (Below.refl _ _)
  case s8 =>
    intro W hB v6 h6 K hK
    simp only [tellK, Act.put, List.setIfInBounds_toArray, List.set_cons_zero, List.set_cons_succ] at hK ⊢
    refine tell_do rfl ?_
    obtain ⟨c0, c1, c2, c3, c4, c5⟩ := cells6 (HP.below hB)
    obtain ⟨g, vs, rfl, hR⟩ := h6; go_simp; exact hK _ _ ⟨g, vs, rfl, hR⟩ (Below.refl _ _)
  case s9 =>
    intro W hB K hK
    simp only [tellK, Act.put, List.setIfInBounds_toArray, List.set_cons_zero, List.set_cons_succ] at hK ⊢
    refine tell_do rfl ?_
    obtain ⟨c0, c1, c2, c3, c4, c5⟩ := cells6 (HP.below hB)
    go_simp
    exact hK _ (Below.refl _ _)
  case hQ =>
    intro W hB v0 h0 v2 h2 v3 h3 v4 h4 v5 h5 v6 h6 v8 h8
    obtain ⟨b0, rfl, h0⟩ := h0
    replace h2 : Rb W v2 [F.of 7] := h2
    replace h3 : Rb W v3 [F.of 5] := h3
    simp only [tellGo, sayAt, List.getD_cons_zero, List.getD_cons_succ, Act.put, List.setIfInBounds_toArray, List.set_cons_zero, List.set_cons_succ]
    obtain ⟨g, vs, rfl, hR⟩ := h8
    replace hB0 := bt_ hB0 hB
    replace HP := HP.below hB
    have d0 := hR.cell 0 (by decide)
    have d1 := hR.cell 1 (by decide)
    have hu0 := (hR.own 0 (by decide)).rk
    have hu1 := (hR.own 1 (by decide)).rk
    rw [E1.out] at hu0
    rw [E2.out] at hu1
    generalize vs 0 = u0 at *
    generalize vs 1 = u1 at *
    clear h0 h2 h3 h4 h5 h6 hB hR
    go_wp2_with fail
    refine (rSame_c _ _ [F.of 13] [F.of 13] _ (hu0.alloc _) (lit_b W [F.of 13] #[.int .u8 13] 5 1 1 rfl rfl (by decide) (by decide))).mono ?_
    rintro e w7 ⟨rfl, h7⟩
    rw [decide_eq_true (rfl : [F.of 13] = [F.of 13])]
    have h7 := bt_ (below_alloc (Below.refl _ _) _) h7.below
    have d1 := pw_cell_below h7 d1
    have hu1 := hu1.below h7
    have HP := HP.below h7
    have hB := bt_ hB0 h7
    clear h7
    go_wp2_with fail
    refine (rSame_c _ _ [F.of 8] [F.of 8] _ (hu1.alloc _) (lit_b w7 [F.of 8] #[.int .u8 8] 5 1 1 rfl rfl (by decide) (by decide))).mono ?_
    rintro e w8 ⟨rfl, h8⟩
    rw [decide_eq_true (rfl : [F.of 8] = [F.of 8])]
    have h8 := bt_ (below_alloc (Below.refl _ _) _) h8.below
    have HP := HP.below h8
    have hB := bt_ hB h8
    clear h8
    obtain ⟨c0, c1, c2, c3, c4, c5⟩ := cells6 HP
    go_wp2_with fail
    refine (dCost_ok twoP0 twoP0_ok 3 (by decide) _).mono ?_
    rintro e w9 ⟨rfl, h9⟩
    rw [show twoP0.T * (F.nS twoP0.L.toNat 3 : Int) = 3 from by decide]
    go_wp2
    go_ret
    exact ⟨rfl, bt_ hB h9⟩
/-! ### DealShares -/
set_option maxRecDepth 100000 in
set_option maxHeartbeats 3200000 in
theorem dealShares_far (p : Pl) (v tv : Value) (blob tape : List F) (w : World) (hv : Rb w v blob) (ht : Rb w tv tape) (h : ¬ (Lite p ∧ blob.length ≤ 250 ∧ tape.length ≤ 600)) :
   Calls Try.prog 26 #[planV p, v, tv] w fun e w' => e = .returned (.bool true) ∧ Below w.heap.size w w' := by
  by_cases hL : Lite p
  · by_cases h1 : blob.length ≤ 250
    · have t1 : decide ((250 : Int) < (blob.length : Int)) = false := decide_eq_false (by omega)
      have t2 : (600 : Int) < (tape.length : Int) := by
        have : ¬ tape.length ≤ 600 := fun e => h ⟨hL, h1, e⟩
        omega
      replace hL := Lib.hid (decide_eq_true hL)
      clear h h1
      obtain ⟨Av, cv, rfl⟩ := rk_form hv
      obtain ⟨At, ct, rfl⟩ := rk_form ht
      have HP := Blk.new w (planC p) 33
      have hB := below_alloc (Below.refl w.heap.size w) (.cells (planC p) 33)
      have hv := hv.below hB
      have ht := ht.below hB
      go_enter Try.func26, Try.ntmps26
      go_wp2_with fail
      generalize w.alloc (.cells (planC p) 33) = w1 at *
      obtain ⟨c0, c1, c2, c3, c4, c5⟩ := cells6 HP
      go_wp2_with fail
      refine (light_c p _).mono ?_
      rintro e w2 ⟨rfl, h2⟩
      rw [hL.out]
      have HP := HP.below h2
      have hB := bt_ hB h2
      have hv := hv.below h2
      have ht := ht.below h2
      obtain ⟨c0, c1, c2, c3, c4, c5⟩ := cells6 HP
      clear h2
      go_wp2_with fail
      refine (alive10 _).mono ?_
      rintro e w9 ⟨rfl, h⟩
      have hB := bt_ hB h
      clear h
      go_wp2
      go_ret
      exact ⟨rfl, hB⟩
    · have t1 : (250 : Int) < (blob.length : Int) := by omega
      replace hL := Lib.hid (decide_eq_true hL)
      clear h h1
      obtain ⟨Av, cv, rfl⟩ := rk_form hv
      obtain ⟨At, ct, rfl⟩ := rk_form ht
      have HP := Blk.new w (planC p) 33
      have hB := below_alloc (Below.refl w.heap.size w) (.cells (planC p) 33)
      have hv := hv.below hB
      have ht := ht.below hB
      go_enter Try.func26, Try.ntmps26
      go_wp2_with fail
      generalize w.alloc (.cells (planC p) 33) = w1 at *
      obtain ⟨c0, c1, c2, c3, c4, c5⟩ := cells6 HP
      go_wp2_with fail
      refine (light_c p _).mono ?_
      rintro e w2 ⟨rfl, h2⟩
      rw [hL.out]
      have HP := HP.below h2
      have hB := bt_ hB h2
      have hv := hv.below h2
      have ht := ht.below h2
      obtain ⟨c0, c1, c2, c3, c4, c5⟩ := cells6 HP
      clear h2
      go_wp2_with fail
      refine (alive10 _).mono ?_
      rintro e w9 ⟨rfl, h⟩
      have hB := bt_ hB h
      clear h
      go_wp2
      go_ret
      exact ⟨rfl, hB⟩
  · replace hL := Lib.hid (decide_eq_false hL)
    clear h
    obtain ⟨Av, cv, rfl⟩ := rk_form hv
    obtain ⟨At, ct, rfl⟩ := rk_form ht
    have HP := Blk.new w (planC p) 33
    have hB := below_alloc (Below.refl w.heap.size w) (.cells (planC p) 33)
    have hv := hv.below hB
    have ht := ht.below hB
    go_enter Try.func26, Try.ntmps26
    go_wp2_with fail
    generalize w.alloc (.cells (planC p) 33) = w1 at *
    obtain ⟨c0, c1, c2, c3, c4, c5⟩ := cells6 HP
    go_wp2_with fail
    refine (light_c p _).mono ?_
    rintro e w2 ⟨rfl, h2⟩
    rw [hL.out]
    have HP := HP.below h2
    have hB := bt_ hB h2
    have hv := hv.below h2
    have ht := ht.below h2
    obtain ⟨c0, c1, c2, c3, c4, c5⟩ := cells6 HP
    clear h2
    go_wp2_with fail
    refine (alive10 _).mono ?_
    rintro e w9 ⟨rfl, h⟩
    have hB := bt_ hB h
    clear h
    go_wp2
    go_ret
    exact ⟨rfl, hB⟩
set_option maxRecDepth 100000 in
set_option maxHeartbeats 3200000 in
theorem dealShares_err (p : Pl) (hi : p.In) (c : Int) (v tv : Value) (blob tape : List F) (w : World) (hv : Rb w v blob) (ht : Rb w tv tape) (hc : dealBad p blob tape c) (hL : Lite p) (b1 : blob.length ≤ 250) (b2 : tape.length ≤ 600) :
   Calls Try.prog 26 #[planV p, v, tv] w fun e w' => e = .returned (.bool true) ∧ Below w.heap.size w w' := by
  have hi1 : Hid (p.Ok → (1 : Int) ≤ 1 ∧ 1 ≤ p.N) := Lib.hid (fun h => ⟨by omega, by have := h.t; have := h.l; have := h.tl; have := h.wn; omega⟩)
  have t1 : decide ((250 : Int) < (blob.length : Int)) = false := decide_eq_false (by omega)
  have t2 : decide ((600 : Int) < (tape.length : Int)) = false := decide_eq_false (by omega)
  replace hL := Lib.hid (decide_eq_true hL)
  have hc0 := hc
  replace hc := Lib.hid hc
  rcases hc0 with ⟨h, rfl⟩ | ⟨h, hl, rfl⟩ | ⟨h, hl, hlen, rfl⟩
  · obtain ⟨Av, cv, rfl⟩ := rk_form hv
    obtain ⟨At, ct, rfl⟩ := rk_form ht
    have HP := Blk.new w (planC p) 33
    have hB := below_alloc (Below.refl w.heap.size w) (.cells (planC p) 33)
    have hv := hv.below hB
    have ht := ht.below hB
    go_enter Try.func26, Try.ntmps26
    go_wp2_with fail
    generalize w.alloc (.cells (planC p) 33) = w1 at *
    obtain ⟨c0, c1, c2, c3, c4, c5⟩ := cells6 HP
    go_wp2_with fail
    refine (light_c p _).mono ?_
    rintro e w2 ⟨rfl, h2⟩
    rw [hL.out]
    have HP := HP.below h2
    have hB := bt_ hB h2
    have hv := hv.below h2
    have ht := ht.below h2
    obtain ⟨c0, c1, c2, c3, c4, c5⟩ := cells6 HP
    clear h2
    go_wp2_with fail
    refine (new_x _).mono ?_
    rintro e w3 ⟨bF, rfl, hF, h3⟩
    have HP := HP.below h3
    have hB := bt_ hB h3
    have hv := hv.below h3
    have ht := ht.below h3
    obtain ⟨c0, c1, c2, c3, c4, c5⟩ := cells6 HP
    clear h3
    go_wp2_with fail
    refine (dDeal_err _ p _ _ _ blob tape _ hv ht hc.out).mono ?_
    rintro e w4 ⟨rfl, h4⟩
    have HP := HP.below h4
    have hB := bt_ hB h4
    have hv := hv.below h4
    have ht := ht.below h4
    obtain ⟨c0, c1, c2, c3, c4, c5⟩ := cells6 HP
    clear h4
    go_wp2_with fail
    refine (rRight_no p hi h _).mono ?_
    rintro e w5 ⟨rfl, h5⟩
    have HP := HP.below h5
    have hB := bt_ hB h5
    have hv := hv.below h5
    have ht := ht.below h5
    obtain ⟨c0, c1, c2, c3, c4, c5⟩ := cells6 HP
    clear h5
    go_wp2_with fail
    refine (dShare_err _ p _ _ _ blob tape 1 hi1.out _ hv ht hc.out).mono ?_
    rintro e w6 ⟨rfl, h6⟩
    have HP := HP.below h6
    have hB := bt_ hB h6
    have hv := hv.below h6
    have ht := ht.below h6
    obtain ⟨c0, c1, c2, c3, c4, c5⟩ := cells6 HP
    clear h6
    go_wp2_with fail
    refine (dCost_no p h 3 _).mono ?_
    rintro e w7 ⟨rfl, h7⟩
    have HP := HP.below h7
    have hB := bt_ hB h7
    have hv := hv.below h7
    have ht := ht.below h7
    obtain ⟨c0, c1, c2, c3, c4, c5⟩ := cells6 HP
    clear h7
    go_wp2_with fail
    refine (alive10 _).mono ?_
    rintro e w9 ⟨rfl, h⟩
    have hB := bt_ hB h
    clear h
    go_wp2
    go_ret
    exact ⟨rfl, hB⟩
  · have t3 : (240 : Int) < (blob.length : Int) := by omega
    obtain ⟨Av, cv, rfl⟩ := rk_form hv
    obtain ⟨At, ct, rfl⟩ := rk_form ht
    have HP := Blk.new w (planC p) 33
    have hB := below_alloc (Below.refl w.heap.size w) (.cells (planC p) 33)
    have hv := hv.below hB
    have ht := ht.below hB
    go_enter Try.func26, Try.ntmps26
    go_wp2_with fail
    generalize w.alloc (.cells (planC p) 33) = w1 at *
    obtain ⟨c0, c1, c2, c3, c4, c5⟩ := cells6 HP
    go_wp2_with fail
    refine (light_c p _).mono ?_
    rintro e w2 ⟨rfl, h2⟩
    rw [hL.out]
    have HP := HP.below h2
    have hB := bt_ hB h2
    have hv := hv.below h2
    have ht := ht.below h2
    obtain ⟨c0, c1, c2, c3, c4, c5⟩ := cells6 HP
    clear h2
    go_wp2_with fail
    refine (new_x _).mono ?_
    rintro e w3 ⟨bF, rfl, hF, h3⟩
    have HP := HP.below h3
    have hB := bt_ hB h3
    have hv := hv.below h3
    have ht := ht.below h3
    obtain ⟨c0, c1, c2, c3, c4, c5⟩ := cells6 HP
    clear h3
    go_wp2_with fail
    refine (dDeal_err _ p _ _ _ blob tape _ hv ht hc.out).mono ?_
    rintro e w4 ⟨rfl, h4⟩
    have HP := HP.below h4
    have hB := bt_ hB h4
    have hv := hv.below h4
    have ht := ht.below h4
    obtain ⟨c0, c1, c2, c3, c4, c5⟩ := cells6 HP
    clear h4
    go_wp2_with fail
    refine (rRight_yes p h _).mono ?_
    rintro e w5 ⟨rfl, h5⟩
    have HP := HP.below h5
    have hB := bt_ hB h5
    have hv := hv.below h5
    have ht := ht.below h5
    obtain ⟨c0, c1, c2, c3, c4, c5⟩ := cells6 HP
    clear h5
    go_wp2_with fail
    refine (dShare_err _ p _ _ _ blob tape 1 hi1.out _ hv ht hc.out).mono ?_
    rintro e w6 ⟨rfl, h6⟩
    have HP := HP.below h6
    have hB := bt_ hB h6
    have hv := hv.below h6
    have ht := ht.below h6
    obtain ⟨c0, c1, c2, c3, c4, c5⟩ := cells6 HP
    clear h6
    go_wp2_with fail
    refine (alive10 _).mono ?_
    rintro e w9 ⟨rfl, h⟩
    have hB := bt_ hB h
    clear h
    go_wp2
    go_ret
    exact ⟨rfl, hB⟩
  · have t3 : decide ((240 : Int) < (blob.length : Int)) = false := decide_eq_false (by omega)
    have t4 : decide ((tape.length : Int) < p.T * (F.nS p.L.toNat blob.length : Int)) = true := decide_eq_true hlen
    obtain ⟨Av, cv, rfl⟩ := rk_form hv
    obtain ⟨At, ct, rfl⟩ := rk_form ht
    have HP := Blk.new w (planC p) 33
    have hB := below_alloc (Below.refl w.heap.size w) (.cells (planC p) 33)
    have hv := hv.below hB
    have ht := ht.below hB
    go_enter Try.func26, Try.ntmps26
    go_wp2_with fail
    generalize w.alloc (.cells (planC p) 33) = w1 at *
    obtain ⟨c0, c1, c2, c3, c4, c5⟩ := cells6 HP
    go_wp2_with fail
    refine (light_c p _).mono ?_
    rintro e w2 ⟨rfl, h2⟩
    rw [hL.out]
    have HP := HP.below h2
    have hB := bt_ hB h2
    have hv := hv.below h2
    have ht := ht.below h2
    obtain ⟨c0, c1, c2, c3, c4, c5⟩ := cells6 HP
    clear h2
    go_wp2_with fail
    refine (new_x _).mono ?_
    rintro e w3 ⟨bF, rfl, hF, h3⟩
    have HP := HP.below h3
    have hB := bt_ hB h3
    have hv := hv.below h3
    have ht := ht.below h3
    obtain ⟨c0, c1, c2, c3, c4, c5⟩ := cells6 HP
    clear h3
    go_wp2_with fail
    refine (dDeal_err _ p _ _ _ blob tape _ hv ht hc.out).mono ?_
    rintro e w4 ⟨rfl, h4⟩
    have HP := HP.below h4
    have hB := bt_ hB h4
    have hv := hv.below h4
    have ht := ht.below h4
    obtain ⟨c0, c1, c2, c3, c4, c5⟩ := cells6 HP
    clear h4
    go_wp2_with fail
    refine (rRight_yes p h _).mono ?_
    rintro e w5 ⟨rfl, h5⟩
    have HP := HP.below h5
    have hB := bt_ hB h5
    have hv := hv.below h5
    have ht := ht.below h5
    obtain ⟨c0, c1, c2, c3, c4, c5⟩ := cells6 HP
    clear h5
    go_wp2_with fail
    refine (rCost_c p h blob.length hl _).mono ?_
    rintro e w5 ⟨rfl, h5⟩
    have HP := HP.below h5
    have hB := bt_ hB h5
    have hv := hv.below h5
    have ht := ht.below h5
    obtain ⟨c0, c1, c2, c3, c4, c5⟩ := cells6 HP
    clear h5
    go_wp2_with fail
    refine (dShare_err _ p _ _ _ blob tape 1 hi1.out _ hv ht hc.out).mono ?_
    rintro e w6 ⟨rfl, h6⟩
    have HP := HP.below h6
    have hB := bt_ hB h6
    have hv := hv.below h6
    have ht := ht.below h6
    obtain ⟨c0, c1, c2, c3, c4, c5⟩ := cells6 HP
    clear h6
    go_wp2_with fail
    refine (alive10 _).mono ?_
    rintro e w9 ⟨rfl, h⟩
    have hB := bt_ hB h
    clear h
    go_wp2
    go_ret
    exact ⟨rfl, hB⟩
set_option maxRecDepth 100000 in
set_option maxHeartbeats 6400000 in
theorem dealShares_ok (p : Pl) (h : p.Ok) (v tv : Value) (blob tape : List F) (w : World) (hv : Rb w v blob) (ht : Rb w tv tape) (hl : blob.length ≤ 240) (hlen : p.T * (F.nS p.L.toNat blob.length : Int) ≤ (tape.length : Int)) (hL : Lite p) (b2 : tape.length ≤ 600) :
   Calls Try.prog 26 #[planV p, v, tv] w fun e w' => e = .returned (.bool true) ∧ Below w.heap.size w w' := by
  have t1 : decide ((250 : Int) < (blob.length : Int)) = false := decide_eq_false (by omega)
  have t2 : decide ((600 : Int) < (tape.length : Int)) = false := decide_eq_false (by omega)
  have t3 : decide ((240 : Int) < (blob.length : Int)) = false := decide_eq_false (by omega)
  have hN := hL.1
  have eN : (p.N.toNat : Int) = p.N := by have := h.t; have := h.l; have := h.tl; have := h.wn; omega
  have tN : ((p.N.toNat : Int) != p.N) = false := by rw [eN]; simp
  have hlT : p.T.toNat * F.nS p.L.toNat blob.length ≤ tape.length := by
    have e0 : (p.T.toNat : Int) = p.T := by have := h.t; omega
    have e := Int.natCast_mul p.T.toNat (F.nS p.L.toNat blob.length)
    rw [e0] at e
    omega
  have hPl : Hid ((polysOf p blob tape).length ≤ 1000000) := Lib.hid (by
    rw [polys_len]
    have := F.nS_le_len p.L.toNat blob.length (by have := h.l; omega)
    omega)
  have hcs := fun W => Lib.hid (dCost_ok p h blob.length hl W)
  have hcr := fun W => Lib.hid (rCost_c p h blob.length hl W)
  have t4 : decide ((tape.length : Int) < p.T * (F.nS p.L.toNat blob.length : Int)) = false := decide_eq_false (by omega)
  replace hL := Lib.hid (decide_eq_true hL)
  replace hlen := Lib.hid hlen
  replace hlT := Lib.hid hlT
  obtain ⟨Av, cv, rfl⟩ := rk_form hv
  obtain ⟨At, ct, rfl⟩ := rk_form ht
  have HP := Blk.new w (planC p) 33
  have hB := below_alloc (Below.refl w.heap.size w) (.cells (planC p) 33)
  have hv := hv.below hB
  have ht := ht.below hB
  go_enter Try.func26, Try.ntmps26
  go_wp2_with fail
  generalize w.alloc (.cells (planC p) 33) = w1 at *
  obtain ⟨c0, c1, c2, c3, c4, c5⟩ := cells6 HP
  go_wp2_with fail
  refine (light_c p _).mono ?_
  rintro e w2 ⟨rfl, h2⟩
  rw [hL.out]
  have HP := HP.below h2
  have hB := bt_ hB h2
  have hv := hv.below h2
  have ht := ht.below h2
  obtain ⟨c0, c1, c2, c3, c4, c5⟩ := cells6 HP
  clear h2
  go_wp2_with fail
  refine (new_x _).mono ?_
  rintro e w3 ⟨bF, rfl, hF, h3⟩
  have HP := HP.below h3
  have hB := bt_ hB h3
  have hv := hv.below h3
  have ht := ht.below h3
  obtain ⟨c0, c1, c2, c3, c4, c5⟩ := cells6 HP
  clear h3
  go_wp2_with fail
  refine (dDeal_ok bF p h _ _ blob tape _ hF hv ht hl hlen.out).mono ?_
  rintro e w4 ⟨g, vs, rfl, hR, h4⟩
  generalize hNN : p.N.toNat = N at *
  replace hNN := Lib.hid hNN
  replace eN := Lib.hid eN
  have hF := hF.below h4
  have HP := HP.below h4
  have hB := bt_ hB h4
  have hv := hv.below h4
  have ht := ht.below h4
  obtain ⟨c0, c1, c2, c3, c4, c5⟩ := cells6 HP
  clear h4
  go_wp2_with fail
  refine (rRight_yes p h _).mono ?_
  rintro e w5 ⟨rfl, h5⟩
  have hF := hF.below h5
  have hR := hR.below h5
  have HP := HP.below h5
  have hB := bt_ hB h5
  have hv := hv.below h5
  have ht := ht.below h5
  obtain ⟨c0, c1, c2, c3, c4, c5⟩ := cells6 HP
  clear h5
  go_wp2_with fail
  refine (hcr _).out.mono ?_
  rintro e w6 ⟨rfl, h6⟩
  have hF := hF.below h6
  have hR := hR.below h6
  have HP := HP.below h6
  have hB := bt_ hB h6
  have hv := hv.below h6
  have ht := ht.below h6
  obtain ⟨c0, c1, c2, c3, c4, c5⟩ := cells6 HP
  clear h6
  go_wp2_with fail
  refine (rPolys10_c p h _ _ blob tape _ hv ht hl hlT.out).mono ?_
  rintro e w7 ⟨vP, rfl, oP, h7⟩
  have hPo := oP.rk
  have hF := hF.below h7
  have hR := hR.below h7
  have HP := HP.below h7
  have hB := bt_ hB h7
  have hv := hv.below h7
  have ht := ht.below h7
  obtain ⟨c0, c1, c2, c3, c4, c5⟩ := cells6 HP
  clear h7 oP
  obtain ⟨AP, cP, rfl⟩ := rk_form hPo
  generalize hX : p.T * (F.nS p.L.toNat blob.length : Int) = X at *
  generalize hnP : (polysOf p blob tape).length = nP at *
  replace hX := Lib.hid hX
  replace hnP := Lib.hid hnP
  have hB9 := hB
  clear hB c0 c1 c2 c3 c4 c5
  go_wp2_with fail
  refine wp_region_tell [.v (.int .i64 0), .v (.bool false), .v (.bool false), .v (.slice (some ⟨g, 0, none⟩) N N), .v (.int .i64 (N : Int)), .v (.pointer (some ⟨w.heap.size, 0, none⟩)), .v (.int .i64 p.N), .v (.bool false), .v (.bool false), .v (.bool false), .v (planV p), .v (.slice Av blob.length cv), .v (.int .i64 (blob.length : Int)), .v (.int .i64 X), .v (planV p), .v (.slice Av blob.length cv), .v (.int .i64 (blob.length : Int)), .v (.int .i64 X), .v (.bool false), .v (.bool false)] [([], none), ([(0, some 96)], none), ([(1, some 97)], none), ([(2, some 98)], some (some 98, false)), ([(2, some 98), (3, some 99)], some (some 98, false)), ([(2, some 98)], some (some 98, false)), ([(2, some 98), (5, some 101)], some (some 98, false)), ([(2, some 98), (4, some 100), (6, some 102)], some (some 98, false)), ([(2, some 98), (7, some 103)], none), ([(8, some 104)], none), ([(9, some 105)], some (some 105, false)), ([(9, some 105)], some (some 105, false)), ([(9, some 105), (11, some 107)], some (some 105, false)), ([(9, some 105), (10, some 106), (12, some 108)], some (some 105, false)), ([(9, some 105)], some (some 105, false)), ([(9, some 105)], some (some 105, false)), ([(9, some 105), (15, some 111)], some (some 105, false)), ([(9, some 105), (14, some 110), (16, some 112)], some (some 105, false)), ([(9, some 105), (13, some 109), (17, some 113)], some (some 105, false)), ([(9, some 105), (18, some 114)], none)] [(0, some 96), (1, some 97), (2, some 98), (3, some 99), (4, some 100), (5, some 101), (6, some 102), (7, some 103), (8, some 104), (9, some 105), (10, some 106), (11, some 107), (12, some 108), (13, some 109), (14, some 110), (15, some 111), (16, some 112), (17, some 113), (18, some 114), (19, some 115)] (by kernel_rfl) (by kernel_rfl) (by kernel_rfl) (by kernel_rfl) (by exact ⟨trivial, trivial, trivial, trivial, trivial, trivial, trivial, trivial, trivial, trivial, trivial, trivial, trivial, trivial, trivial, trivial, trivial, trivial, trivial, trivial, trivial⟩) ⟨?s0, ?s1, ?s2, ?s3, ?s4, ?s5, ?s6, ?s7, ?s8, ?s9, ?s10, ?s11, ?s12, ?s13, ?s14, ?s15, ?s16, ?s17, ?s18, ?s19, trivial⟩ ?hQ
  case s0 =>
    intro W hB K hK
    simp only [tellK, Act.put, List.setIfInBounds_toArray, List.set_cons_zero, List.set_cons_succ] at hK ⊢
    refine tell_do rfl ?_
    obtain ⟨c0, c1, c2, c3, c4, c5⟩ := cells6 (HP.below hB)
    go_simp
    exact hK _ (Below.refl _ _)
  case s1 =>
    intro W hB K hK
    simp only [tellK, Act.put, List.setIfInBounds_toArray, List.set_cons_zero, List.set_cons_succ] at hK ⊢
    refine tell_do rfl ?_
    obtain ⟨c0, c1, c2, c3, c4, c5⟩ := cells6 (HP.below hB)
    go_simp
    exact hK _ (Below.refl _ _)
  case s2 =>
    intro W hB K hK
    simp only [tellK, Act.put, List.setIfInBounds_toArray, List.set_cons_zero, List.set_cons_succ] at hK ⊢
    refine tell_do rfl ?_
    obtain ⟨c0, c1, c2, c3, c4, c5⟩ := cells6 (HP.below hB)
    go_simp
    exact hK _ (Below.refl _ _)
  case s3 =>
    intro W hB K hK
    simp only [tellK, Act.put, List.setIfInBounds_toArray, List.set_cons_zero, List.set_cons_succ] at hK ⊢
    refine tell_do rfl ?_
    obtain ⟨c0, c1, c2, c3, c4, c5⟩ := cells6 (HP.below hB)
    go_simp
    exact hK _ (Below.refl _ _)
  case s4 =>
    intro W hB K hK
    simp only [tellK, Act.put, List.setIfInBounds_toArray, List.set_cons_zero, List.set_cons_succ] at hK ⊢
    refine tell_do rfl ?_
    obtain ⟨c0, c1, c2, c3, c4, c5⟩ := cells6 (HP.below hB)
    go_simp
    exact hK _ (Below.refl _ _)
  case s5 =>
    intro W hB K hK
    simp only [tellK, Act.put, List.setIfInBounds_toArray, List.set_cons_zero, List.set_cons_succ] at hK ⊢
    refine tell_do rfl ?_
    obtain ⟨c0, c1, c2, c3, c4, c5⟩ := cells6 (HP.below hB)
    go_simp
    exact hK _ (Below.refl _ _)
  case s6 =>
    intro W hB K hK
    simp only [tellK, Act.put, List.setIfInBounds_toArray, List.set_cons_zero, List.set_cons_succ] at hK ⊢
    refine tell_do rfl ?_
    obtain ⟨c0, c1, c2, c3, c4, c5⟩ := cells6 (HP.below hB)
    go_simp
    exact hK _ (Below.refl _ _)
  case s7 =>
    intro W hB K hK
    simp only [tellK, Act.put, List.setIfInBounds_toArray, List.set_cons_zero, List.set_cons_succ] at hK ⊢
    refine tell_do rfl ?_
    obtain ⟨c0, c1, c2, c3, c4, c5⟩ := cells6 (HP.below hB)
    go_simp
    exact hK _ (Below.refl _ _)
  case s8 =>
    intro W hB K hK
    simp only [tellK, Act.put, List.setIfInBounds_toArray, List.set_cons_zero, List.set_cons_succ] at hK ⊢
    refine tell_do rfl ?_
    obtain ⟨c0, c1, c2, c3, c4, c5⟩ := cells6 (HP.below hB)
    go_simp
    exact hK _ (Below.refl _ _)
  case s9 =>
    intro W hB K hK
    simp only [tellK, Act.put, List.setIfInBounds_toArray, List.set_cons_zero, List.set_cons_succ] at hK ⊢
    refine tell_do rfl ?_
    obtain ⟨c0, c1, c2, c3, c4, c5⟩ := cells6 (HP.below hB)
    go_simp
    exact hK _ (Below.refl _ _)
  case s10 =>
    intro W hB K hK
    simp only [tellK, Act.put, List.setIfInBounds_toArray, List.set_cons_zero, List.set_cons_succ] at hK ⊢
    refine tell_do rfl ?_
    obtain ⟨c0, c1, c2, c3, c4, c5⟩ := cells6 (HP.below hB)
    go_simp
    exact hK _ (Below.refl _ _)
  case s11 =>
    intro W hB K hK
    simp only [tellK, Act.put, List.setIfInBounds_toArray, List.set_cons_zero, List.set_cons_succ] at hK ⊢
    refine tell_do rfl ?_
    obtain ⟨c0, c1, c2, c3, c4, c5⟩ := cells6 (HP.below hB)
    go_simp
    exact hK _ (Below.refl _ _)
  case s12 =>
    intro W hB K hK
    simp only [tellK, Act.put, List.setIfInBounds_toArray, List.set_cons_zero, List.set_cons_succ] at hK ⊢
    refine tell_do rfl ?_
    obtain ⟨c0, c1, c2, c3, c4, c5⟩ := cells6 (HP.below hB)
    go_simp
    exact hK _ (Below.refl _ _)
  case s13 =>
    intro W hB K hK
    simp only [tellK, Act.put, List.setIfInBounds_toArray, List.set_cons_zero, List.set_cons_succ] at hK ⊢
    refine tell_do rfl ?_
    obtain ⟨c0, c1, c2, c3, c4, c5⟩ := cells6 (HP.below hB)
    go_simp
    go_at_call 132; refine (hcs _).out.mono ?_; rintro e w6 ⟨rfl, h6⟩; exact hK _ h6
  case s14 =>
    intro W hB K hK
    simp only [tellK, Act.put, List.setIfInBounds_toArray, List.set_cons_zero, List.set_cons_succ] at hK ⊢
    refine tell_do rfl ?_
    obtain ⟨c0, c1, c2, c3, c4, c5⟩ := cells6 (HP.below hB)
    go_simp
    exact hK _ (Below.refl _ _)
  case s15 =>
    intro W hB K hK
    simp only [tellK, Act.put, List.setIfInBounds_toArray, List.set_cons_zero, List.set_cons_succ] at hK ⊢
    refine tell_do rfl ?_
    obtain ⟨c0, c1, c2, c3, c4, c5⟩ := cells6 (HP.below hB)
    go_simp
    exact hK _ (Below.refl _ _)
  case s16 =>
    intro W hB K hK
    simp only [tellK, Act.put, List.setIfInBounds_toArray, List.set_cons_zero, List.set_cons_succ] at hK ⊢
    refine tell_do rfl ?_
    obtain ⟨c0, c1, c2, c3, c4, c5⟩ := cells6 (HP.below hB)
    go_simp
    exact hK _ (Below.refl _ _)
  case s17 =>
    intro W hB K hK
    simp only [tellK, Act.put, List.setIfInBounds_toArray, List.set_cons_zero, List.set_cons_succ] at hK ⊢
    refine tell_do rfl ?_
    obtain ⟨c0, c1, c2, c3, c4, c5⟩ := cells6 (HP.below hB)
    go_simp
    go_at_call 125; refine (hcr _).out.mono ?_; rintro e w6 ⟨rfl, h6⟩; exact hK _ h6
  case s18 =>
    intro W hB K hK
    simp only [tellK, Act.put, List.setIfInBounds_toArray, List.set_cons_zero, List.set_cons_succ] at hK ⊢
    refine tell_do rfl ?_
    obtain ⟨c0, c1, c2, c3, c4, c5⟩ := cells6 (HP.below hB)
    go_simp
    exact hK _ (Below.refl _ _)
  case s19 =>
    intro W hB K hK
    simp only [tellK, Act.put, List.setIfInBounds_toArray, List.set_cons_zero, List.set_cons_succ] at hK ⊢
    refine tell_do rfl ?_
    obtain ⟨c0, c1, c2, c3, c4, c5⟩ := cells6 (HP.below hB)
    go_simp
    exact hK _ (Below.refl _ _)
  case hQ =>
    intro W hB
    simp only [tellGo, sayAt, List.getD_cons_zero, List.getD_cons_succ, Act.put, List.setIfInBounds_toArray, List.set_cons_zero, List.set_cons_succ]
    have hF := hF.below hB
    have hR := hR.below hB
    have hv := hv.below hB
    have ht := ht.below hB
    have hPo := hPo.below hB
    have HP := HP.below hB
    have hB9 := bt_ hB9 hB
    clear hB
    go_wp2_with fail
    have hRw := Lib.hid hR
    go_loopw [14, 15, 16, 118] (fun _ _ _ i wr => ∃ k : Nat, k ≤ N ∧ i = .int .i64 k ∧ Below W.heap.size W wr) (fun _ _ _ i _ => N - (intOf i).toNat)
    case atStart => exact ⟨0, by omega, rfl, Below.refl _ _⟩
    case round =>
      obtain ⟨k, hk, rfl, hB⟩ := hrel
      replace hF := hF.below hB
      replace hR := hR.below hB
      replace hv := hv.below hB
      replace ht := ht.below hB
      replace hPo := hPo.below hB
      replace HP := HP.below hB
      replace hB9 := bt_ hB9 hB
      by_cases hlt : k < N
      · obtain ⟨c0, c1, c2, c3, c4, c5⟩ := cells6 HP
        have hk2 := hlt
        have hki : (k : Int) < (N : Int) := by omega
        have hr1 : Hid (1 ≤ ((k : Int) + 1) ∧ ((k : Int) + 1) ≤ p.N) := Lib.hid ⟨by omega, by have := eN.out; omega⟩
        have u1 : IntKind.i64.wrap ((k : Int) + 1) = (k : Int) + 1 := wrapI _ (by omega) (by have := eN.out; omega)
        go_wp2_with fail
        refine (dShare_ok bF p h _ _ blob tape ((k : Int) + 1) hr1.out _ hF hv ht hl (by rw [hX.out]; exact hlen.out)).mono ?_
        rintro e w5 ⟨z, rfl, sz, h5⟩
        have hz := sz.rk
        replace hR := hR.below h5
        replace hPo := hPo.below h5
        have hBr := bt_ hB h5
        have hu := (hR.own k hk2).rk
        replace hu : Rb w5 (vs k) (F.dshare (polysOf p blob tape) (point ((k : Int) + 1))) := hu
        have hDD : Hid ((polysOf p blob tape).map (F.ev (point ((k : Int) + 1))) = F.dshare (polysOf p blob tape) (point ((k : Int) + 1))) := Lib.hid rfl
        generalize F.dshare (polysOf p blob tape) (point ((k : Int) + 1)) = D at *
        generalize hvk : vs k = u at *
        replace hvk := Lib.hid hvk
        obtain ⟨Az, nz, cz, rfl⟩ : ∃ A m c, z = .slice A m c := (rk_form hz).elim fun A h => h.elim fun c h => ⟨A, _, c, h⟩
        clear h5 hB sz HP hv ht hF c0 c1 c2 c3 c4 c5
        go_wp2_with fail
        refine wp_region_tell [.v (.slice (some ⟨g, 0, none⟩) N N), .v (.int .i64 (k : Int)), .v (.pointer (some ⟨g, k, none⟩)), .v (u), .v (.slice AP nP cP), .v (.int .i64 (k : Int)), .v (.int .i64 ((k : Int) + 1)), .p (isB D), .v (.bool true), .v (.bool false), .v (.bool false), .v (.int .i64 0), .v (.bool false), .v (.bool false), .v (.bool false), .v (.slice Az nz cz), .v (.slice (some ⟨g, 0, none⟩) N N), .v (.int .i64 (k : Int)), .v (.pointer (some ⟨g, k, none⟩)), .v (u), .v (.bool true), .v (.bool false), .v (.bool false)] [([], none), ([], none), ([(0, some 131), (1, some 132)], none), ([(2, some 133)], none), ([], none), ([], none), ([(5, some 136)], none), ([(4, some 135), (6, some 137)], none), ([(3, some 134), (7, some 138)], none), ([(8, some 139)], none), ([(9, some 140)], none), ([(10, some 141)], some (some 141, false)), ([(10, some 141), (11, some 142)], some (some 141, false)), ([(10, some 141), (12, some 143)], none), ([(13, some 144)], none), ([(14, some 145)], some (some 145, false)), ([(14, some 145)], some (some 145, false)), ([(14, some 145)], some (some 145, false)), ([(14, some 145), (16, some 147), (17, some 148)], some (some 145, false)), ([(14, some 145), (18, some 149)], some (some 145, false)), ([(14, some 145), (15, some 146), (19, some 150)], some (some 145, false)), ([(14, some 145), (20, some 151)], some (some 145, false)), ([(14, some 145), (21, some 152)], none)] [(0, some 131), (1, some 132), (2, some 133), (3, some 134), (4, some 135), (5, some 136), (6, some 137), (7, some 138), (8, some 139), (9, some 140), (10, some 141), (11, some 142), (12, some 143), (13, some 144), (14, some 145), (15, some 146), (16, some 147), (17, some 148), (18, some 149), (19, some 150), (20, some 151), (21, some 152), (22, some 153)] (by kernel_rfl) (by kernel_rfl) (by kernel_rfl) (by kernel_rfl) (by exact ⟨trivial, trivial, trivial, trivial, trivial, trivial, trivial, last_B _, trivial, trivial, trivial, trivial, trivial, trivial, trivial, trivial, trivial, trivial, trivial, trivial, trivial, trivial, trivial, trivial⟩) ⟨?s0, ?s1, ?s2, ?s3, ?s4, ?s5, ?s6, ?s7, ?s8, ?s9, ?s10, ?s11, ?s12, ?s13, ?s14, ?s15, ?s16, ?s17, ?s18, ?s19, ?s20, ?s21, ?s22, trivial⟩ ?hQ
        case s0 =>
          intro W hB K hK
          simp only [tellK, Act.put, List.setIfInBounds_toArray, List.set_cons_zero, List.set_cons_succ] at hK ⊢
          refine tell_do rfl ?_
          have q1 := (hR.below hB).cell k hk2; rw [hvk.out] at q1
          go_simp
          exact hK _ (Below.refl _ _)
        case s1 =>
          intro W hB K hK
          simp only [tellK, Act.put, List.setIfInBounds_toArray, List.set_cons_zero, List.set_cons_succ] at hK ⊢
          refine tell_do rfl ?_
          have q1 := (hR.below hB).cell k hk2; rw [hvk.out] at q1
          go_simp
          exact hK _ (Below.refl _ _)
        case s2 =>
          intro W hB K hK
          simp only [tellK, Act.put, List.setIfInBounds_toArray, List.set_cons_zero, List.set_cons_succ] at hK ⊢
          refine tell_do rfl ?_
          have q1 := (hR.below hB).cell k hk2; rw [hvk.out] at q1
          go_simp
          exact hK _ (Below.refl _ _)
        case s3 =>
          intro W hB K hK
          simp only [tellK, Act.put, List.setIfInBounds_toArray, List.set_cons_zero, List.set_cons_succ] at hK ⊢
          refine tell_do rfl ?_
          have q1 := (hR.below hB).cell k hk2; rw [hvk.out] at q1
          go_simp
          exact hK _ (Below.refl _ _)
        case s4 =>
          intro W hB K hK
          simp only [tellK, Act.put, List.setIfInBounds_toArray, List.set_cons_zero, List.set_cons_succ] at hK ⊢
          refine tell_do rfl ?_
          have q1 := (hR.below hB).cell k hk2; rw [hvk.out] at q1
          go_simp
          exact hK _ (Below.refl _ _)
        case s5 =>
          intro W hB K hK
          simp only [tellK, Act.put, List.setIfInBounds_toArray, List.set_cons_zero, List.set_cons_succ] at hK ⊢
          refine tell_do rfl ?_
          have q1 := (hR.below hB).cell k hk2; rw [hvk.out] at q1
          go_simp
          exact hK _ (Below.refl _ _)
        case s6 =>
          intro W hB K hK
          simp only [tellK, Act.put, List.setIfInBounds_toArray, List.set_cons_zero, List.set_cons_succ] at hK ⊢
          refine tell_do rfl ?_
          have q1 := (hR.below hB).cell k hk2; rw [hvk.out] at q1
          go_simp
          exact hK _ (Below.refl _ _)
        case s7 =>
          intro W hB K hK
          simp only [tellK, Act.put, List.setIfInBounds_toArray, List.set_cons_zero, List.set_cons_succ] at hK ⊢
          refine tell_do rfl ?_
          have q1 := (hR.below hB).cell k hk2; rw [hvk.out] at q1
          go_simp
          go_at_call 100; refine (rShare10_c _ (polysOf p blob tape) ((k : Int) + 1) _ (hPo.below hB) (by rw [hnP.out]; exact hPl.out)).mono ?_; rintro e w6 ⟨y, rfl, sY, h6⟩; exact hK _ _ (hDD.out ▸ sY.rk) h6
        case s8 =>
          intro W hB v7 h7 K hK
          replace h7 : Rb W v7 D := h7
          simp only [tellK, Act.put, List.setIfInBounds_toArray, List.set_cons_zero, List.set_cons_succ] at hK ⊢
          refine tell_do rfl ?_
          have q1 := (hR.below hB).cell k hk2; rw [hvk.out] at q1
          go_simp
          go_at_call 60; refine (rSame_c _ _ D D _ (hu.below hB) h7).mono ?_; rintro e w6 ⟨rfl, h6⟩; rw [decide_eq_true (rfl : D = D)]; exact hK _ h6.below
        case s9 =>
          intro W hB K hK
          simp only [tellK, Act.put, List.setIfInBounds_toArray, List.set_cons_zero, List.set_cons_succ] at hK ⊢
          refine tell_do rfl ?_
          have q1 := (hR.below hB).cell k hk2; rw [hvk.out] at q1
          go_simp
          exact hK _ (Below.refl _ _)
        case s10 =>
          intro W hB K hK
          simp only [tellK, Act.put, List.setIfInBounds_toArray, List.set_cons_zero, List.set_cons_succ] at hK ⊢
          refine tell_do rfl ?_
          have q1 := (hR.below hB).cell k hk2; rw [hvk.out] at q1
          go_simp
          exact hK _ (Below.refl _ _)
        case s11 =>
          intro W hB K hK
          simp only [tellK, Act.put, List.setIfInBounds_toArray, List.set_cons_zero, List.set_cons_succ] at hK ⊢
          refine tell_do rfl ?_
          have q1 := (hR.below hB).cell k hk2; rw [hvk.out] at q1
          go_simp
          exact hK _ (Below.refl _ _)
        case s12 =>
          intro W hB K hK
          simp only [tellK, Act.put, List.setIfInBounds_toArray, List.set_cons_zero, List.set_cons_succ] at hK ⊢
          refine tell_do rfl ?_
          have q1 := (hR.below hB).cell k hk2; rw [hvk.out] at q1
          go_simp
          exact hK _ (Below.refl _ _)
        case s13 =>
          intro W hB K hK
          simp only [tellK, Act.put, List.setIfInBounds_toArray, List.set_cons_zero, List.set_cons_succ] at hK ⊢
          refine tell_do rfl ?_
          have q1 := (hR.below hB).cell k hk2; rw [hvk.out] at q1
          go_simp
          exact hK _ (Below.refl _ _)
        case s14 =>
          intro W hB K hK
          simp only [tellK, Act.put, List.setIfInBounds_toArray, List.set_cons_zero, List.set_cons_succ] at hK ⊢
          refine tell_do rfl ?_
          have q1 := (hR.below hB).cell k hk2; rw [hvk.out] at q1
          go_simp
          exact hK _ (Below.refl _ _)
        case s15 =>
          intro W hB K hK
          simp only [tellK, Act.put, List.setIfInBounds_toArray, List.set_cons_zero, List.set_cons_succ] at hK ⊢
          refine tell_do rfl ?_
          have q1 := (hR.below hB).cell k hk2; rw [hvk.out] at q1
          go_simp
          exact hK _ (Below.refl _ _)
        case s16 =>
          intro W hB K hK
          simp only [tellK, Act.put, List.setIfInBounds_toArray, List.set_cons_zero, List.set_cons_succ] at hK ⊢
          refine tell_do rfl ?_
          have q1 := (hR.below hB).cell k hk2; rw [hvk.out] at q1
          go_simp
          exact hK _ (Below.refl _ _)
        case s17 =>
          intro W hB K hK
          simp only [tellK, Act.put, List.setIfInBounds_toArray, List.set_cons_zero, List.set_cons_succ] at hK ⊢
          refine tell_do rfl ?_
          have q1 := (hR.below hB).cell k hk2; rw [hvk.out] at q1
          go_simp
          exact hK _ (Below.refl _ _)
        case s18 =>
          intro W hB K hK
          simp only [tellK, Act.put, List.setIfInBounds_toArray, List.set_cons_zero, List.set_cons_succ] at hK ⊢
          refine tell_do rfl ?_
          have q1 := (hR.below hB).cell k hk2; rw [hvk.out] at q1
          go_simp
          exact hK _ (Below.refl _ _)
        case s19 =>
          intro W hB K hK
          simp only [tellK, Act.put, List.setIfInBounds_toArray, List.set_cons_zero, List.set_cons_succ] at hK ⊢
          refine tell_do rfl ?_
          have q1 := (hR.below hB).cell k hk2; rw [hvk.out] at q1
          go_simp
          exact hK _ (Below.refl _ _)
        case s20 =>
          intro W hB K hK
          simp only [tellK, Act.put, List.setIfInBounds_toArray, List.set_cons_zero, List.set_cons_succ] at hK ⊢
          refine tell_do rfl ?_
          have q1 := (hR.below hB).cell k hk2; rw [hvk.out] at q1
          go_simp
          go_at_call 60; refine (rSame_c _ _ D D _ (hz.below hB) (hu.below hB)).mono ?_; rintro e w6 ⟨rfl, h6⟩; rw [decide_eq_true (rfl : D = D)]; exact hK _ h6.below
        case s21 =>
          intro W hB K hK
          simp only [tellK, Act.put, List.setIfInBounds_toArray, List.set_cons_zero, List.set_cons_succ] at hK ⊢
          refine tell_do rfl ?_
          have q1 := (hR.below hB).cell k hk2; rw [hvk.out] at q1
          go_simp
          exact hK _ (Below.refl _ _)
        case s22 =>
          intro W hB K hK
          simp only [tellK, Act.put, List.setIfInBounds_toArray, List.set_cons_zero, List.set_cons_succ] at hK ⊢
          refine tell_do rfl ?_
          have q1 := (hR.below hB).cell k hk2; rw [hvk.out] at q1
          go_simp
          exact hK _ (Below.refl _ _)
        case hQ =>
          intro W hB v7 h7
          replace h7 : Rb W v7 D := h7
          simp only [tellGo, sayAt, List.getD_cons_zero, List.getD_cons_succ, Act.put, List.setIfInBounds_toArray, List.set_cons_zero, List.set_cons_succ]
          have hBr := bt_ hBr hB
          go_wp2
          exact ⟨⟨k + 1, by omega, by go_num, hBr⟩, by simp [intOf]; try omega⟩
      · obtain rfl : k = N := by omega
        have u1 : IntKind.i64.wrap (p.N + 1) = p.N + 1 := wrapI _ (by have := eN.out; omega) (by omega)
        have ho1 : Hid (¬ (1 ≤ p.N + 1 ∧ p.N + 1 ≤ p.N)) := Lib.hid (by omega)
        have ho2 : Hid (¬ ((1 : Int) ≤ 0 ∧ 0 ≤ p.N)) := Lib.hid (by omega)
        obtain ⟨c0, c1, c2, c3, c4, c5⟩ := cells6 HP
        go_wp2_with fail
        refine (dShare_out _ p h _ _ (p.N + 1) ho1.out _).mono ?_
        rintro e w5 ⟨rfl, h5⟩
        obtain ⟨c0, c1, c2, c3, c4, c5⟩ := cells6 (HP.below h5)
        go_wp2_with fail
        refine (dShare_out _ p h _ _ 0 ho2.out _).mono ?_
        rintro e w6 ⟨rfl, h6⟩
        have hB := bt_ (bt_ hB9 h5) h6
        go_wp2_with fail
        refine (alive10 _).mono ?_
        rintro e w9 ⟨rfl, h⟩
        have hB := bt_ hB h
        clear h
        go_wp2
        go_ret
        exact ⟨rfl, hB⟩
theorem DealShares_walk (w : World) (N : Int) (hN : -9223372036854775808 ≤ N ∧ N ≤ 9223372036854775807) (T : Int) (hT : -9223372036854775808 ≤ T ∧ T ≤ 9223372036854775807) (L : Int) (hL : -9223372036854775808 ≤ L ∧ L ≤ 9223372036854775807) (W : Int) (hW : -9223372036854775808 ≤ W ∧ W ≤ 9223372036854775807) (S : Int) (hS : -9223372036854775808 ≤ S ∧ S ≤ 9223372036854775807) (R : Int) (hR : -9223372036854775808 ≤ R ∧ R ≤ 9223372036854775807) (v : Value) (blob : List F) (hv : Rb w v blob) (u : Value) (tape : List F) (hu : Rb w u tape) :
   Calls Try.prog 26 #[.agg #[.int .i64 N, .int .i64 T, .int .i64 L, .int .i64 W, .int .i64 S, .int .i64 R], v, u] w fun e w' => e = .returned (.bool true) ∧ Below w.heap.size w w' := by
  by_cases hf : Lite ⟨N, T, L, W, S, R⟩ ∧ blob.length ≤ 250 ∧ tape.length ≤ 600
  · obtain ⟨hLt, b1, b2⟩ := hf
    have hi : Pl.In ⟨N, T, L, W, S, R⟩ := ⟨hN, hT, hL, hW, hS, hR⟩
    by_cases h : (Pl.mk N T L W S R).Ok
    · by_cases h1 : blob.length ≤ 240
      · by_cases h2 : (Pl.mk N T L W S R).T * (F.nS (Pl.mk N T L W S R).L.toNat blob.length : Int) ≤ (tape.length : Int)
        · exact dealShares_ok _ h v u blob tape w hv hu h1 h2 hLt b2
        · exact dealShares_err _ hi 12 v u blob tape w hv hu (.inr (.inr ⟨h, h1, by omega, rfl⟩)) hLt b1 b2
      · exact dealShares_err _ hi 7 v u blob tape w hv hu (.inr (.inl ⟨h, h1, rfl⟩)) hLt b1 b2
    · exact dealShares_err _ hi 1 v u blob tape w hv hu (.inl ⟨h, rfl⟩) hLt b1 b2
  · exact dealShares_far ⟨N, T, L, W, S, R⟩ v u blob tape w hv hu hf
end Go.Proofs.Ytijeabhfddaoaaa
