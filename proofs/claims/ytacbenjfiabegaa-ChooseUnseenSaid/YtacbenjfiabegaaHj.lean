/- The walk of the law ChoosePlays. -/
import Derived.Test.YtacbenjfiabegaaHi
import Derived.Test.YtacbenjfiabegaaRow
namespace Go.Proofs.Ytacbenjfiabegaa
set_option linter.unusedVariables false
set_option linter.unusedSimpArgs false
open Go.RowKit Go.Proofs.YtacbenjfiabegaaW.PrintWords Go.Proofs.Sh

theorem sameI_yes (v u : Value) (l : List Int) (w : World) (hv : Ri w v l) (hu : Ri w u l) :
   Calls Try.prog 47 #[v, u] w fun e w' => e = .returned (.bool true) ∧ Below w.heap.size w w' := by
  refine (rSameI_c v u l l w hv hu).mono fun e w' h => ⟨?_, h.2.below⟩
  rw [h.1, decide_eq_true rfl]
theorem some_deal : dealL somePl [4, 2, 1] = [1, 2] ∧ dealB somePl [4, 2, 1] = true ∧ helpB somePl [4, 2, 1] 2 = false ∧ isC somePl 2 = true := by
  have h := somePl_ok
  refine ⟨?_, ?_, ?_, ?_⟩
  · unfold dealL dealN pickC; rw [if_pos h, if_pos h]; decide
  · unfold dealB dealN pickC; rw [if_pos h, if_pos h]; decide
  · unfold helpB needN pickC; rw [if_pos h, if_pos h]; decide
  · rw [isC_ok h]; decide
theorem rest_3 {r : List Int} (h : IsRest [3, 1, 3] [1] r) : r = [3] := by
  refine rise_eq _ _ h.1 (by simp) (fun y => ?_)
  rw [h.2]
  simp
  omega
set_option maxRecDepth 100000 in
set_option maxHeartbeats 1600000 in
theorem alive37_c (w : World) :
   Calls Try.prog 40 #[] w fun e w' => e = .returned (.bool true) ∧ Below w.heap.size w w' := by
  go_enter Try.func40, Try.ntmps40
  go_wp2_with fail
  refine (some_c _).mono ?_
  rintro e w1 ⟨rfl, h1⟩
  go_wp2_with fail
  refine (cDealers_c somePl _ [4, 2, 1] _ (lit_i w1 [4, 2, 1] #[.int .i64 4, .int .i64 2, .int .i64 1] 3 3 3 rfl rfl (by decide) (by decide)) (by decide)).mono ?_
  rw [some_deal.1, some_deal.2.1]
  rintro e w2 ⟨z, rfl, hz, h2⟩
  replace h2 := bt_ h1 (bt_ (below_alloc (Below.refl _ _) _) h2)
  clear h1
  go_wp2_with fail
  refine (some_c _).mono ?_
  rintro e w3 ⟨rfl, h3⟩
  replace hz := hz.below h3
  replace h3 := bt_ h2 h3
  clear h2
  go_wp2_with fail
  refine (cHelpers_c somePl _ [4, 2, 1] 2 _ (lit_i w3 [4, 2, 1] #[.int .i64 4, .int .i64 2, .int .i64 1] 3 3 3 rfl rfl (by decide) (by decide)) (by decide) some_deal.2.2.2).mono ?_
  rw [some_deal.2.2.1]
  rintro e w4 ⟨z4, rfl, _, h4⟩
  replace h4 := bt_ (below_alloc (Below.refl w3.heap.size w3) _) h4
  replace hz := hz.below h4
  replace h4 := bt_ h3 h4
  clear h3
  go_wp2_with fail
  refine (sameI_yes _ _ [1, 2] _ (hz.alloc _) (lit_i w4 [1, 2] #[.int .i64 1, .int .i64 2] 3 2 2 rfl rfl (by decide) (by decide))).mono ?_
  rintro e w5 ⟨rfl, h5⟩
  replace h5 := bt_ h4 (bt_ (below_alloc (Below.refl _ _) _) h5)
  clear h4 hz
  go_wp2_with fail
  have hA := lit_i w5 [3, 1, 3] #[.int .i64 3, .int .i64 1, .int .i64 3] 3 3 3 rfl rfl (by decide) (by decide)
  have hL := lit_i (w5.alloc (.cells #[.int .i64 3, .int .i64 1, .int .i64 3] 3)) [1] #[.int .i64 1] 3 1 1 rfl rfl (by decide) (by decide)
  rw [World.size_alloc] at hL
  refine (rest_c _ _ [3, 1, 3] [1] _ (hA.alloc _) hL (by decide)).mono ?_
  rintro e w6 ⟨v6, r6, rfl, hO6, h6, hr6⟩
  rw [rest_3 hr6] at hO6
  replace h6 := bt_ h5 (bt_ (below_alloc (below_alloc (Below.refl w5.heap.size w5) _) _) h6)
  replace hO6 := hO6.rk
  clear h5 hA hL hr6
  go_wp2_with fail
  refine (sameI_yes _ _ [3] _ (hO6.alloc _) (lit_i w6 [3] #[.int .i64 3] 3 1 1 rfl rfl (by decide) (by decide))).mono ?_
  rintro e w7 ⟨rfl, h7⟩
  replace h7 := bt_ h6 (bt_ (below_alloc (Below.refl _ _) _) h7)
  clear h6
  go_wp2
  go_ret
  exact ⟨rfl, h7⟩
/-- Who helps, of any target. -/
def helpsL (p : Pl) (l : List Int) (t : Int) : List Int := if isC p t then helpL p l t else []
def helpsB (p : Pl) (l : List Int) (t : Int) : Bool := isC p t && helpB p l t
theorem cHelps_c (p : Pl) (u : Value) (l : List Int) (t : Int) (w : World) (hu : Ri w u l) (hl : l.length ≤ 100000) :
   Calls Try.prog 42 #[planV p, u, .int .i64 t] w fun e w' => ∃ z, e = .returned (.tuple #[z, .bool (helpsB p l t)]) ∧ Ri w' z (helpsL p l t) ∧ Below w.heap.size w w' := by
  unfold helpsB helpsL
  cases ht : isC p t with
  | true => exact cHelpers_c p u l t w hu hl ht
  | false => exact (cHelpers_no p u t w ht).mono fun e w' h => ⟨_, h.1, Rk.nil _ _, h.2⟩
theorem rcHelps_c (p : Pl) (hi : p.In) (u : Value) (l : List Int) (t : Int) (w : World) (hu : Ri w u l) :
   Calls Try.prog 46 #[planV p, u, .int .i64 t] w fun e w' => ∃ z, e = .returned (.tuple #[z, .bool (helpsB p l t)]) ∧ Ri w' z (helpsL p l t) ∧ Below w.heap.size w w' := by
  unfold helpsB helpsL
  cases ht : isC p t with
  | true => exact rcHelpers_c p u l t w hu ht
  | false => exact (rcHelpers_no p hi u t w ht).mono fun e w' h => ⟨_, h.1, Rk.nil _ _, h.2⟩
theorem rest_same {l z r s : List Int} (h : IsRest l z r) (h2 : IsRest l z s) : r = s := rise_eq _ _ h.1 h2.1 (fun y => by rw [h.2, h2.2])
set_option maxRecDepth 100000 in
set_option maxHeartbeats 3200000 in
theorem ChoosePlays_c (p : Pl) (hi : p.In) (u : Value) (l : List Int) (t : Int) (w : World) (hu : Ri w u l) :
   Calls Try.prog 10 #[planV p, u, .int .i64 t] w fun e w' => e = .returned (.bool true) ∧ Below w.heap.size w w' := by
  obtain ⟨A, c, rfl⟩ := rk_form hu
  have hlm := ri_len (rk_C hu)
  have HP := Blk.new w (planC p) 48
  have hB := below_alloc (Below.refl w.heap.size w) (.cells (planC p) 48)
  replace hu := hu.below hB
  go_enter Try.func10, Try.ntmps10
  go_upto_region 1 with fail
  generalize w.alloc (.cells (planC p) 48) = w0 at *
  by_cases h100 : (100 : Int) < l.length
  · have t1 : decide ((100 : Int) < (l.length : Int)) = true := decide_eq_true h100
    go_wp2_with fail
    refine (alive37_c _).mono ?_
    rintro e w1 ⟨rfl, h1⟩
    replace hB := bt_ hB h1
    go_wp2
    go_ret
    exact ⟨rfl, hB⟩
  · have t1 : decide ((100 : Int) < (l.length : Int)) = false := decide_eq_false h100
    have hl : l.length ≤ 100000 := by omega
    go_upto_region 3 with fail
    replace hu := Lib.hid hu
    obtain ⟨c0, c1, c2, c3, c4, c5⟩ := cells6 HP
    go_wp2_with fail
    refine (cDealers_c p _ l _ hu.out hl).mono ?_
    rintro e w1 ⟨za, rfl, ra, h1⟩
    replace hu := Lib.hid (hu.out.below h1)
    have HP := HP.below h1
    have hB := bt_ hB h1
    obtain ⟨c0, c1, c2, c3, c4, c5⟩ := cells6 HP
    clear h1
    go_wp2_with fail
    refine (rcDealers_c p hi _ l _ hu.out).mono ?_
    rintro e w2 ⟨zb, rfl, rb, h1⟩
    replace hu := Lib.hid (hu.out.below h1)
    replace ra := ra.below h1
    have HP := HP.below h1
    have hB := bt_ hB h1
    obtain ⟨c0, c1, c2, c3, c4, c5⟩ := cells6 HP
    clear h1
    go_wp2_with fail
    refine (cHelps_c p _ l t _ hu.out hl).mono ?_
    rintro e w3 ⟨zc, rfl, rc, h1⟩
    replace hu := Lib.hid (hu.out.below h1)
    replace ra := ra.below h1
    replace rb := rb.below h1
    have HP := HP.below h1
    have hB := bt_ hB h1
    obtain ⟨c0, c1, c2, c3, c4, c5⟩ := cells6 HP
    clear h1
    go_wp2_with fail
    refine (rcHelps_c p hi _ l t _ hu.out).mono ?_
    rintro e w4 ⟨zd, rfl, rd, h1⟩
    replace hu := Lib.hid (hu.out.below h1)
    replace ra := Lib.hid (ra.below h1)
    replace rb := Lib.hid (rb.below h1)
    replace rc := Lib.hid (rc.below h1)
    replace rd := Lib.hid rd
    have HP := HP.below h1
    have hB := bt_ hB h1
    obtain ⟨c0, c1, c2, c3, c4, c5⟩ := cells6 HP
    clear h1
    go_upto_region 7 with fail
    generalize dealB p l = db at *
    generalize helpsB p l t = hb at *
    have hBo := hB
    clear hB c0 c1 c2 c3 c4 c5
    have hl100 : l.length ≤ 100 := by omega
    clear t1 h100
    have tdb : (db != db) = false := by simp
    have thb : (hb != hb) = false := by simp
    refine wp_region_tell [.v (za), .v (zb), .v (.bool true), .v (.bool false), .v (.bool false), .v (.bool db), .v (.bool db), .v (.bool false), .v (.bool false), .v (.bool false), .v (zc), .v (zd), .v (.bool true), .v (.bool false), .v (.bool false), .v (.bool false), .v (.bool hb), .v (.bool hb), .v (.bool false), .v (.bool false), .v (.bool false), .v (planV p), .v (.slice A l.length c), .p (isI (targL p l)), .v (planV p), .v (.slice A l.length c), .p (isI (targL p l)), .v (.bool true), .v (.bool false), .v (.bool false)] [([], none), ([], none), ([(0, some 45), (1, some 46)], none), ([(2, some 47)], none), ([(3, some 48)], none), ([(4, some 49)], some (some 49, false)), ([(4, some 49)], some (some 49, false)), ([(4, some 49), (5, some 50), (6, some 51)], some (some 49, false)), ([(4, some 49), (7, some 52)], none), ([(8, some 53)], none), ([(9, some 54)], some (some 54, false)), ([(9, some 54)], some (some 54, false)), ([(9, some 54), (10, some 55), (11, some 56)], some (some 54, false)), ([(9, some 54), (12, some 57)], some (some 54, false)), ([(9, some 54), (13, some 58)], none), ([(14, some 59)], none), ([(15, some 60)], some (some 60, false)), ([(15, some 60)], some (some 60, false)), ([(15, some 60), (16, some 61), (17, some 62)], some (some 60, false)), ([(15, some 60), (18, some 63)], none), ([(19, some 64)], none), ([(20, some 65)], some (some 65, false)), ([(20, some 65)], some (some 65, false)), ([(20, some 65), (21, some 66), (22, some 67)], some (some 65, false)), ([(20, some 65)], some (some 65, false)), ([(20, some 65)], some (some 65, false)), ([(20, some 65), (24, some 69), (25, some 70)], some (some 65, false)), ([(20, some 65), (23, some 68), (26, some 71)], some (some 65, false)), ([(20, some 65), (27, some 72)], some (some 65, false)), ([(20, some 65), (28, some 73)], none)] [(0, some 45), (1, some 46), (2, some 47), (3, some 48), (4, some 49), (5, some 50), (6, some 51), (7, some 52), (8, some 53), (9, some 54), (10, some 55), (11, some 56), (12, some 57), (13, some 58), (14, some 59), (15, some 60), (16, some 61), (17, some 62), (18, some 63), (19, some 64), (20, some 65), (21, some 66), (22, some 67), (23, some 68), (24, some 69), (25, some 70), (26, some 71), (27, some 72), (28, some 73), (29, some 74)] (by kernel_rfl) (by kernel_rfl) (by kernel_rfl) (by kernel_rfl) (by exact ⟨trivial, trivial, trivial, trivial, trivial, trivial, trivial, trivial, trivial, trivial, trivial, trivial, trivial, trivial, trivial, trivial, trivial, trivial, trivial, trivial, trivial, trivial, trivial, last_I _, trivial, trivial, last_I _, trivial, trivial, trivial, trivial⟩) ⟨?s0, ?s1, ?s2, ?s3, ?s4, ?s5, ?s6, ?s7, ?s8, ?s9, ?s10, ?s11, ?s12, ?s13, ?s14, ?s15, ?s16, ?s17, ?s18, ?s19, ?s20, ?s21, ?s22, ?s23, ?s24, ?s25, ?s26, ?s27, ?s28, ?s29, trivial⟩ ?hQ
    case s0 =>
      intro W hB K hK
      simp only [tellK, Act.put, List.setIfInBounds_toArray, List.set_cons_zero, List.set_cons_succ] at hK ⊢
      refine tell_do rfl ?_
      obtain ⟨c0, c1, c2, c3, c4, c5⟩ := cells6 (HP.below hB)
      go_simp
      exact hK _ (Below.refl _ _)
    case s1 =>
      intro W hB K hK
      simp only [tellK, Act.put, List.setIfInBounds_toArray, List.set_cons_zero, List.set_cons_succ] at hK ⊢
      refine tell_do rfl ?_
      obtain ⟨c0, c1, c2, c3, c4, c5⟩ := cells6 (HP.below hB)
      go_simp
      exact hK _ (Below.refl _ _)
    case s2 =>
      intro W hB K hK
      simp only [tellK, Act.put, List.setIfInBounds_toArray, List.set_cons_zero, List.set_cons_succ] at hK ⊢
      refine tell_do rfl ?_
      obtain ⟨c0, c1, c2, c3, c4, c5⟩ := cells6 (HP.below hB)
      go_simp
      go_at_call 47; refine (sameI_yes _ _ _ _ (ra.out.below hB) (rb.out.below hB)).mono ?_; rintro e W9 ⟨rfl, g9⟩; exact hK _ g9
    case s3 =>
      intro W hB K hK
      simp only [tellK, Act.put, List.setIfInBounds_toArray, List.set_cons_zero, List.set_cons_succ] at hK ⊢
      refine tell_do rfl ?_
      obtain ⟨c0, c1, c2, c3, c4, c5⟩ := cells6 (HP.below hB)
      go_simp
      exact hK _ (Below.refl _ _)
    case s4 =>
      intro W hB K hK
      simp only [tellK, Act.put, List.setIfInBounds_toArray, List.set_cons_zero, List.set_cons_succ] at hK ⊢
      refine tell_do rfl ?_
      obtain ⟨c0, c1, c2, c3, c4, c5⟩ := cells6 (HP.below hB)
      go_simp
      exact hK _ (Below.refl _ _)
    case s5 =>
      intro W hB K hK
      simp only [tellK, Act.put, List.setIfInBounds_toArray, List.set_cons_zero, List.set_cons_succ] at hK ⊢
      refine tell_do rfl ?_
      obtain ⟨c0, c1, c2, c3, c4, c5⟩ := cells6 (HP.below hB)
      go_simp
      exact hK _ (Below.refl _ _)
    case s6 =>
      intro W hB K hK
      simp only [tellK, Act.put, List.setIfInBounds_toArray, List.set_cons_zero, List.set_cons_succ] at hK ⊢
      refine tell_do rfl ?_
      obtain ⟨c0, c1, c2, c3, c4, c5⟩ := cells6 (HP.below hB)
      go_simp
      exact hK _ (Below.refl _ _)
    case s7 =>
      intro W hB K hK
      simp only [tellK, Act.put, List.setIfInBounds_toArray, List.set_cons_zero, List.set_cons_succ] at hK ⊢
      refine tell_do rfl ?_
      obtain ⟨c0, c1, c2, c3, c4, c5⟩ := cells6 (HP.below hB)
      go_simp
      exact hK _ (Below.refl _ _)
    case s8 =>
      intro W hB K hK
      simp only [tellK, Act.put, List.setIfInBounds_toArray, List.set_cons_zero, List.set_cons_succ] at hK ⊢
      refine tell_do rfl ?_
      obtain ⟨c0, c1, c2, c3, c4, c5⟩ := cells6 (HP.below hB)
      go_simp
      exact hK _ (Below.refl _ _)
    case s9 =>
      intro W hB K hK
      simp only [tellK, Act.put, List.setIfInBounds_toArray, List.set_cons_zero, List.set_cons_succ] at hK ⊢
      refine tell_do rfl ?_
      obtain ⟨c0, c1, c2, c3, c4, c5⟩ := cells6 (HP.below hB)
      go_simp
      exact hK _ (Below.refl _ _)
    case s10 =>
      intro W hB K hK
      simp only [tellK, Act.put, List.setIfInBounds_toArray, List.set_cons_zero, List.set_cons_succ] at hK ⊢
      refine tell_do rfl ?_
      obtain ⟨c0, c1, c2, c3, c4, c5⟩ := cells6 (HP.below hB)
      go_simp
      exact hK _ (Below.refl _ _)
    case s11 =>
      intro W hB K hK
      simp only [tellK, Act.put, List.setIfInBounds_toArray, List.set_cons_zero, List.set_cons_succ] at hK ⊢
      refine tell_do rfl ?_
      obtain ⟨c0, c1, c2, c3, c4, c5⟩ := cells6 (HP.below hB)
      go_simp
      exact hK _ (Below.refl _ _)
    case s12 =>
      intro W hB K hK
      simp only [tellK, Act.put, List.setIfInBounds_toArray, List.set_cons_zero, List.set_cons_succ] at hK ⊢
      refine tell_do rfl ?_
      obtain ⟨c0, c1, c2, c3, c4, c5⟩ := cells6 (HP.below hB)
      go_simp
      go_at_call 47; refine (sameI_yes _ _ _ _ (rc.out.below hB) (rd.out.below hB)).mono ?_; rintro e W9 ⟨rfl, g9⟩; exact hK _ g9
    case s13 =>
      intro W hB K hK
      simp only [tellK, Act.put, List.setIfInBounds_toArray, List.set_cons_zero, List.set_cons_succ] at hK ⊢
      refine tell_do rfl ?_
      obtain ⟨c0, c1, c2, c3, c4, c5⟩ := cells6 (HP.below hB)
      go_simp
      exact hK _ (Below.refl _ _)
    case s14 =>
      intro W hB K hK
      simp only [tellK, Act.put, List.setIfInBounds_toArray, List.set_cons_zero, List.set_cons_succ] at hK ⊢
      refine tell_do rfl ?_
      obtain ⟨c0, c1, c2, c3, c4, c5⟩ := cells6 (HP.below hB)
      go_simp
      exact hK _ (Below.refl _ _)
    case s15 =>
      intro W hB K hK
      simp only [tellK, Act.put, List.setIfInBounds_toArray, List.set_cons_zero, List.set_cons_succ] at hK ⊢
      refine tell_do rfl ?_
      obtain ⟨c0, c1, c2, c3, c4, c5⟩ := cells6 (HP.below hB)
      go_simp
      exact hK _ (Below.refl _ _)
    case s16 =>
      intro W hB K hK
      simp only [tellK, Act.put, List.setIfInBounds_toArray, List.set_cons_zero, List.set_cons_succ] at hK ⊢
      refine tell_do rfl ?_
      obtain ⟨c0, c1, c2, c3, c4, c5⟩ := cells6 (HP.below hB)
      go_simp
      exact hK _ (Below.refl _ _)
    case s17 =>
      intro W hB K hK
      simp only [tellK, Act.put, List.setIfInBounds_toArray, List.set_cons_zero, List.set_cons_succ] at hK ⊢
      refine tell_do rfl ?_
      obtain ⟨c0, c1, c2, c3, c4, c5⟩ := cells6 (HP.below hB)
      go_simp
      exact hK _ (Below.refl _ _)
    case s18 =>
      intro W hB K hK
      simp only [tellK, Act.put, List.setIfInBounds_toArray, List.set_cons_zero, List.set_cons_succ] at hK ⊢
      refine tell_do rfl ?_
      obtain ⟨c0, c1, c2, c3, c4, c5⟩ := cells6 (HP.below hB)
      go_simp
      exact hK _ (Below.refl _ _)
    case s19 =>
      intro W hB K hK
      simp only [tellK, Act.put, List.setIfInBounds_toArray, List.set_cons_zero, List.set_cons_succ] at hK ⊢
      refine tell_do rfl ?_
      obtain ⟨c0, c1, c2, c3, c4, c5⟩ := cells6 (HP.below hB)
      go_simp
      exact hK _ (Below.refl _ _)
    case s20 =>
      intro W hB K hK
      simp only [tellK, Act.put, List.setIfInBounds_toArray, List.set_cons_zero, List.set_cons_succ] at hK ⊢
      refine tell_do rfl ?_
      obtain ⟨c0, c1, c2, c3, c4, c5⟩ := cells6 (HP.below hB)
      go_simp
      exact hK _ (Below.refl _ _)
    case s21 =>
      intro W hB K hK
      simp only [tellK, Act.put, List.setIfInBounds_toArray, List.set_cons_zero, List.set_cons_succ] at hK ⊢
      refine tell_do rfl ?_
      obtain ⟨c0, c1, c2, c3, c4, c5⟩ := cells6 (HP.below hB)
      go_simp
      exact hK _ (Below.refl _ _)
    case s22 =>
      intro W hB K hK
      simp only [tellK, Act.put, List.setIfInBounds_toArray, List.set_cons_zero, List.set_cons_succ] at hK ⊢
      refine tell_do rfl ?_
      obtain ⟨c0, c1, c2, c3, c4, c5⟩ := cells6 (HP.below hB)
      go_simp
      exact hK _ (Below.refl _ _)
    case s23 =>
      intro W hB K hK
      simp only [tellK, Act.put, List.setIfInBounds_toArray, List.set_cons_zero, List.set_cons_succ] at hK ⊢
      refine tell_do rfl ?_
      obtain ⟨c0, c1, c2, c3, c4, c5⟩ := cells6 (HP.below hB)
      go_simp
      go_at_call 48; refine (cTargets_c p _ l _ (hu.out.below hB)).mono ?_; rintro e W9 ⟨z, rfl, hz, g9⟩; exact hK _ _ hz g9
    case s24 =>
      intro W hB K hK
      simp only [tellK, Act.put, List.setIfInBounds_toArray, List.set_cons_zero, List.set_cons_succ] at hK ⊢
      refine tell_do rfl ?_
      obtain ⟨c0, c1, c2, c3, c4, c5⟩ := cells6 (HP.below hB)
      go_simp
      exact hK _ (Below.refl _ _)
    case s25 =>
      intro W hB K hK
      simp only [tellK, Act.put, List.setIfInBounds_toArray, List.set_cons_zero, List.set_cons_succ] at hK ⊢
      refine tell_do rfl ?_
      obtain ⟨c0, c1, c2, c3, c4, c5⟩ := cells6 (HP.below hB)
      go_simp
      exact hK _ (Below.refl _ _)
    case s26 =>
      intro W hB K hK
      simp only [tellK, Act.put, List.setIfInBounds_toArray, List.set_cons_zero, List.set_cons_succ] at hK ⊢
      refine tell_do rfl ?_
      obtain ⟨c0, c1, c2, c3, c4, c5⟩ := cells6 (HP.below hB)
      go_simp
      go_at_call 49; refine (rcTargets_c p hi _ l _ (hu.out.below hB)).mono ?_; rintro e W9 ⟨z, rfl, hz, g9⟩; exact hK _ _ hz g9
    case s27 =>
      intro W hB v23 h23 v26 h26 K hK
      replace h23 : Ri W v23 (targL p l) := h23
      replace h26 : Ri W v26 (targL p l) := h26
      simp only [tellK, Act.put, List.setIfInBounds_toArray, List.set_cons_zero, List.set_cons_succ] at hK ⊢
      refine tell_do rfl ?_
      obtain ⟨c0, c1, c2, c3, c4, c5⟩ := cells6 (HP.below hB)
      go_simp
      go_at_call 47; refine (sameI_yes _ _ _ _ h23 h26).mono ?_; rintro e W9 ⟨rfl, g9⟩; exact hK _ g9
    case s28 =>
      intro W hB K hK
      simp only [tellK, Act.put, List.setIfInBounds_toArray, List.set_cons_zero, List.set_cons_succ] at hK ⊢
      refine tell_do rfl ?_
      obtain ⟨c0, c1, c2, c3, c4, c5⟩ := cells6 (HP.below hB)
      go_simp
      exact hK _ (Below.refl _ _)
    case s29 =>
      intro W hB K hK
      simp only [tellK, Act.put, List.setIfInBounds_toArray, List.set_cons_zero, List.set_cons_succ] at hK ⊢
      refine tell_do rfl ?_
      obtain ⟨c0, c1, c2, c3, c4, c5⟩ := cells6 (HP.below hB)
      go_simp
      exact hK _ (Below.refl _ _)
    case hQ =>
      intro W hB v23 h23 v26 h26
      replace h23 : Ri W v23 (targL p l) := h23
      replace h26 : Ri W v26 (targL p l) := h26
      simp only [tellGo, sayAt, List.getD_cons_zero, List.getD_cons_succ, Act.put, List.setIfInBounds_toArray, List.set_cons_zero, List.set_cons_succ]
      replace hBo := bt_ hBo hB
      replace hu := Lib.hid (hu.out.below hB)
      clear ra rb rc rd hB h23 h26
      go_wp2_with fail
      refine (rest_c _ _ l [t, 3] _ (hu.out.alloc _) (lit_i W [t, 3] #[.int .i64 t, .int .i64 3] 3 2 2 rfl rfl (by decide) (by decide)) hl).mono ?_
      rintro e y1 ⟨va, r1, rfl, o1, g1, q1⟩
      replace g1 := bt_ (below_alloc (Below.refl W.heap.size W) _) g1
      replace hBo := bt_ hBo g1
      replace hu := Lib.hid (hu.out.below g1)
      replace o1 := Lib.hid o1.rk
      replace q1 := Lib.hid q1
      clear g1
      go_wp2_with fail
      refine (rcRest_c _ _ l [t, 3] _ (hu.out.alloc _) (lit_i y1 [t, 3] #[.int .i64 t, .int .i64 3] 3 2 2 rfl rfl (by decide) (by decide)) hl).mono ?_
      rintro e y2 ⟨vb, r2, rfl, o2, g1, q2⟩
      replace g1 := bt_ (below_alloc (Below.refl y1.heap.size y1) _) g1
      replace hBo := bt_ hBo g1
      replace hu := Lib.hid (hu.out.below g1)
      replace o1 := Lib.hid (o1.out.below g1)
      rw [← rest_same q1.out q2] at o2
      clear g1 q1 q2
      go_wp2_with fail
      refine (sameI_yes _ _ r1 _ o1.out o2).mono ?_
      rintro e y3 ⟨rfl, g1⟩
      replace hBo := bt_ hBo g1
      replace hu := Lib.hid (hu.out.below g1)
      clear g1 o1 o2
      go_wp2_with fail
      refine (rest_c _ _ l [] _ hu.out (Rk.nil _ _) hl).mono ?_
      rintro e y4 ⟨vc, r3, rfl, o1, g1, q1⟩
      replace hBo := bt_ hBo g1
      replace hu := Lib.hid (hu.out.below g1)
      replace o1 := Lib.hid o1.rk
      replace q1 := Lib.hid q1
      clear g1
      go_wp2_with fail
      refine (rcRest_c _ _ l [] _ hu.out (Rk.nil _ _) hl).mono ?_
      rintro e y5 ⟨vd, r4, rfl, o2, g1, q2⟩
      replace hBo := bt_ hBo g1
      replace o1 := Lib.hid (o1.out.below g1)
      rw [← rest_same q1.out q2] at o2
      clear g1 q1 q2 hu
      go_wp2_with fail
      refine (sameI_yes _ _ r3 _ o1.out o2).mono ?_
      rintro e y6 ⟨rfl, g1⟩
      replace hBo := bt_ hBo g1
      clear g1 o1 o2
      go_wp2_with fail
      refine (alive37_c _).mono ?_
      rintro e y7 ⟨rfl, g1⟩
      replace hBo := bt_ hBo g1
      clear g1
      go_wp2
      go_ret
      exact ⟨rfl, hBo⟩
theorem ChoosePlays_walk (w : World) (N : Int) (hN : -9223372036854775808 ≤ N ∧ N ≤ 9223372036854775807) (T : Int) (hT : -9223372036854775808 ≤ T ∧ T ≤ 9223372036854775807) (L : Int) (hL : -9223372036854775808 ≤ L ∧ L ≤ 9223372036854775807) (W : Int) (hW : -9223372036854775808 ≤ W ∧ W ≤ 9223372036854775807) (S : Int) (hS : -9223372036854775808 ≤ S ∧ S ≤ 9223372036854775807) (R : Int) (hR : -9223372036854775808 ≤ R ∧ R ≤ 9223372036854775807)
    (u : Value) (l : List Int) (hu : Ri w u l) (hq : ∀ y ∈ l, I64 y) (t : Int) (ht : I64 t) :
   Calls Try.prog 10 #[.agg #[.int .i64 N, .int .i64 T, .int .i64 L, .int .i64 W, .int .i64 S, .int .i64 R], u, .int .i64 t] w fun e w' => e = .returned (.bool true) ∧ Below w.heap.size w w' :=
  ChoosePlays_c ⟨N, T, L, W, S, R⟩ ⟨hN, hT, hL, hW, hS, hR⟩ u l t w hu
end Go.Proofs.Ytacbenjfiabegaa
