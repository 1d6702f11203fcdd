/- The walk of the law BlindBack. -/
import Derived.Test.YtijeabhfddaoaaaBb
import Derived.Test.YtijeabhfddaoaaaPr
import Derived.Test.YtijeabhfddaoaaaFt
import Derived.Test.YtijeabhfddaoaaaL12b
import Derived.Test.YtijeabhfddaoaaaR13b
import Derived.Test.YtijeabhfddaoaaaR13c
namespace Go.Proofs.Ytijeabhfddaoaaa
set_option linter.unusedVariables false
open Go.RowKit Go.Proofs.YtijeabhfddaoaaaW.PrintWords Go.Proofs.Sh

theorem obb_far {w0 w : World} {v : Value} {ls : List (List F)} (h : Obb w0 w v ls) {g : Nat} (hg : g < w0.heap.size) (j : Nat) (u : Value) : Obb w0 (w.setCell ⟨g, j, none⟩ u) v ls :=
  Kd.R_mono (Kd.R_far (p := ⟨g, j, none⟩) (Kd.R_bound h) (fun k hk => by have := hk.2.1; show k ≠ g; omega) u) (fun _ _ => trivial)
/-- Rows of one's own in a tuple, as a saying. -/
def isTOO (w0 : World) (ls : List (List F)) (c : Value) : Value → World → Prop := fun v W => ∃ y, v = .tuple #[y, c] ∧ Obb w0 W y ls
theorem last_TOO (w0 : World) (ls : List (List F)) (c : Value) : Lasts (isTOO w0 ls c) := fun _ _ _ ⟨y, e, h⟩ hB => ⟨y, e, Own.below h hB⟩
set_option maxRecDepth 100000 in
set_option maxHeartbeats 3200000 in
theorem blindBack_0 (p : Pl) (va vt vz vw : Value) (a t z : List F) (who : List Int) (w : World) (ha : Rb w va a) (ht : Rb w vt t) (hz : Rb w vz z) (hw : Ri w vw who) (h : ¬ Lite p) : Calls Try.prog 28 #[planV p, .agg #[va, vt, vz], vw] w fun e w' => e = .returned (.bool true) ∧ Below w.heap.size w w' := by
  have hL := Lib.hid (decide_eq_false h)
  clear h
  obtain ⟨Aa, ca, rfl⟩ := rk_form ha
  obtain ⟨At, ct, rfl⟩ := rk_form ht
  obtain ⟨Az, cz, rfl⟩ := rk_form hz
  obtain ⟨Aw, cw, rfl⟩ := rk_form hw
  have HP := (Blk.new w (planC p) 33).alloc (.cells #[.slice Aa a.length ca, .slice At t.length ct, .slice Az z.length cz] 116)
  have HQ := Blk.new' (w.alloc (.cells (planC p) 33)) #[.slice Aa a.length ca, .slice At t.length ct, .slice Az z.length cz] 116 (World.size_alloc _ _)
  have hB := below_alloc (below_alloc (Below.refl w.heap.size w) (.cells (planC p) 33)) (.cells #[.slice Aa a.length ca, .slice At t.length ct, .slice Az z.length cz] 116)
  replace ha := ha.below hB
  replace ht := ht.below hB
  replace hz := hz.below hB
  replace hw := hw.below hB
  go_enter Try.func28, Try.ntmps28
  go_wp2_with fail
  generalize (w.alloc (.cells (planC p) 33)).alloc (.cells #[.slice Aa a.length ca, .slice At t.length ct, .slice Az z.length cz] 116) = w1 at *
  have q0 := HQ.cell 0 _ rfl
  have q1 := HQ.cell 1 _ rfl
  go_quiet (fail)
  replace HP := HP.below (pw_below_drewN (Below.refl _ _) nq)
  replace ha := ha.drewN nq
  replace ht := ht.drewN nq
  replace hz := hz.drewN nq
  replace HQ := HQ.below (pw_below_drewN (Below.refl _ _) nq)
  replace hw := hw.drewN nq
  replace hB := pw_below_drewN hB nq
  clear q0 q1
  generalize w1.drewN nq = w1' at *
  obtain ⟨c0, c1, c2, c3, c4, c5⟩ := cells6 HP
  go_wp2_with fail
  refine (light_c p _).mono ?_
  rintro e w2 ⟨rfl, h2⟩
  rw [hL.out]
  replace HP := HP.below h2
  replace hB := bt_ hB h2
  replace ha := ha.below h2
  replace ht := ht.below h2
  replace hz := hz.below h2
  replace HQ := HQ.below h2
  replace hw := hw.below h2
  clear c0 c1 c2 c3 c4 c5
  obtain ⟨c0, c1, c2, c3, c4, c5⟩ := cells6 HP
  clear h2
  go_wp2_with fail
  refine (alive13 _).mono ?_
  rintro e w9 ⟨rfl, h⟩
  have hB := bt_ hB h
  clear h
  go_wp2
  go_ret
  exact ⟨rfl, hB⟩
set_option maxRecDepth 100000 in
set_option maxHeartbeats 3200000 in
theorem blindBack_1 (p : Pl) (va vt vz vw : Value) (a t z : List F) (who : List Int) (w : World) (ha : Rb w va a) (ht : Rb w vt t) (hz : Rb w vz z) (hw : Ri w vw who) (hi : p.In) (hL0 : Lite p) (h : ¬ p.Ok) : Calls Try.prog 28 #[planV p, .agg #[va, vt, vz], vw] w fun e w' => e = .returned (.bool true) ∧ Below w.heap.size w w' := by
  have hL := Lib.hid (decide_eq_true hL0)
  obtain ⟨Aa, ca, rfl⟩ := rk_form ha
  obtain ⟨At, ct, rfl⟩ := rk_form ht
  obtain ⟨Az, cz, rfl⟩ := rk_form hz
  obtain ⟨Aw, cw, rfl⟩ := rk_form hw
  have HP := (Blk.new w (planC p) 33).alloc (.cells #[.slice Aa a.length ca, .slice At t.length ct, .slice Az z.length cz] 116)
  have HQ := Blk.new' (w.alloc (.cells (planC p) 33)) #[.slice Aa a.length ca, .slice At t.length ct, .slice Az z.length cz] 116 (World.size_alloc _ _)
  have hB := below_alloc (below_alloc (Below.refl w.heap.size w) (.cells (planC p) 33)) (.cells #[.slice Aa a.length ca, .slice At t.length ct, .slice Az z.length cz] 116)
  replace ha := ha.below hB
  replace ht := ht.below hB
  replace hz := hz.below hB
  replace hw := hw.below hB
  go_enter Try.func28, Try.ntmps28
  go_wp2_with fail
  generalize (w.alloc (.cells (planC p) 33)).alloc (.cells #[.slice Aa a.length ca, .slice At t.length ct, .slice Az z.length cz] 116) = w1 at *
  have q0 := HQ.cell 0 _ rfl
  have q1 := HQ.cell 1 _ rfl
  go_quiet (fail)
  replace HP := HP.below (pw_below_drewN (Below.refl _ _) nq)
  replace ha := ha.drewN nq
  replace ht := ht.drewN nq
  replace hz := hz.drewN nq
  replace HQ := HQ.below (pw_below_drewN (Below.refl _ _) nq)
  replace hw := hw.drewN nq
  replace hB := pw_below_drewN hB nq
  clear q0 q1
  generalize w1.drewN nq = w1' at *
  obtain ⟨c0, c1, c2, c3, c4, c5⟩ := cells6 HP
  go_wp2_with fail
  refine (light_c p _).mono ?_
  rintro e w2 ⟨rfl, h2⟩
  rw [hL.out]
  replace HP := HP.below h2
  replace hB := bt_ hB h2
  replace ha := ha.below h2
  replace ht := ht.below h2
  replace hz := hz.below h2
  replace HQ := HQ.below h2
  replace hw := hw.below h2
  clear c0 c1 c2 c3 c4 c5
  obtain ⟨c0, c1, c2, c3, c4, c5⟩ := cells6 HP
  clear h2
  go_wp2_with fail
  refine (rRight_no p hi h _).mono ?_
  rintro e w3 ⟨rfl, h3⟩
  replace hB := bt_ hB h3
  go_wp2_with fail
  refine (alive13 _).mono ?_
  rintro e w9 ⟨rfl, h⟩
  have hB := bt_ hB h
  clear h
  go_wp2
  go_ret
  exact ⟨rfl, hB⟩
set_option maxRecDepth 100000 in
set_option maxHeartbeats 3200000 in
theorem blindBack_2 (p : Pl) (va vt vz vw : Value) (a t z : List F) (who : List Int) (w : World) (ha : Rb w va a) (ht : Rb w vt t) (hz : Rb w vz z) (hw : Ri w vw who) (hL0 : Lite p) (h : p.Ok) (hx : ¬ a.length ≤ 60) : Calls Try.prog 28 #[planV p, .agg #[va, vt, vz], vw] w fun e w' => e = .returned (.bool true) ∧ Below w.heap.size w w' := by
  have hL := Lib.hid (decide_eq_true hL0)
  have t3 : (60 : Int) < (a.length : Int) := by omega
  obtain ⟨Aa, ca, rfl⟩ := rk_form ha
  obtain ⟨At, ct, rfl⟩ := rk_form ht
  obtain ⟨Az, cz, rfl⟩ := rk_form hz
  obtain ⟨Aw, cw, rfl⟩ := rk_form hw
  have HP := (Blk.new w (planC p) 33).alloc (.cells #[.slice Aa a.length ca, .slice At t.length ct, .slice Az z.length cz] 116)
  have HQ := Blk.new' (w.alloc (.cells (planC p) 33)) #[.slice Aa a.length ca, .slice At t.length ct, .slice Az z.length cz] 116 (World.size_alloc _ _)
  have hB := below_alloc (below_alloc (Below.refl w.heap.size w) (.cells (planC p) 33)) (.cells #[.slice Aa a.length ca, .slice At t.length ct, .slice Az z.length cz] 116)
  replace ha := ha.below hB
  replace ht := ht.below hB
  replace hz := hz.below hB
  replace hw := hw.below hB
  go_enter Try.func28, Try.ntmps28
  go_wp2_with fail
  generalize (w.alloc (.cells (planC p) 33)).alloc (.cells #[.slice Aa a.length ca, .slice At t.length ct, .slice Az z.length cz] 116) = w1 at *
  have q0 := HQ.cell 0 _ rfl
  have q1 := HQ.cell 1 _ rfl
  go_quiet (fail)
  replace HP := HP.below (pw_below_drewN (Below.refl _ _) nq)
  replace ha := ha.drewN nq
  replace ht := ht.drewN nq
  replace hz := hz.drewN nq
  replace HQ := HQ.below (pw_below_drewN (Below.refl _ _) nq)
  replace hw := hw.drewN nq
  replace hB := pw_below_drewN hB nq
  clear q0 q1
  generalize w1.drewN nq = w1' at *
  obtain ⟨c0, c1, c2, c3, c4, c5⟩ := cells6 HP
  go_wp2_with fail
  refine (light_c p _).mono ?_
  rintro e w2 ⟨rfl, h2⟩
  rw [hL.out]
  replace HP := HP.below h2
  replace hB := bt_ hB h2
  replace ha := ha.below h2
  replace ht := ht.below h2
  replace hz := hz.below h2
  replace HQ := HQ.below h2
  replace hw := hw.below h2
  clear c0 c1 c2 c3 c4 c5
  obtain ⟨c0, c1, c2, c3, c4, c5⟩ := cells6 HP
  clear h2
  go_wp2_with fail
  refine (rRight_yes p h _).mono ?_
  rintro e w3 ⟨rfl, h3⟩
  replace HP := HP.below h3
  replace hB := bt_ hB h3
  replace ha := ha.below h3
  replace ht := ht.below h3
  replace hz := hz.below h3
  replace HQ := HQ.below h3
  replace hw := hw.below h3
  clear c0 c1 c2 c3 c4 c5
  obtain ⟨c0, c1, c2, c3, c4, c5⟩ := cells6 HP
  clear h3
  go_wp2_with fail
  refine (alive13 _).mono ?_
  rintro e w9 ⟨rfl, h⟩
  have hB := bt_ hB h
  clear h
  go_wp2
  go_ret
  exact ⟨rfl, hB⟩
set_option maxRecDepth 100000 in
set_option maxHeartbeats 3200000 in
theorem blindBack_3 (p : Pl) (va vt vz vw : Value) (a t z : List F) (who : List Int) (w : World) (ha : Rb w va a) (ht : Rb w vt t) (hz : Rb w vz z) (hw : Ri w vw who) (hL0 : Lite p) (h : p.Ok) (hl60 : a.length ≤ 60) (n : Nat) (hn : p.T.toNat * F.nS p.L.toNat a.length = n) (K : Nat) (eK : p.T + p.L = K) (K1 : Nat) (eK1 : K1 = K + 1) (hx : ¬ (n ≤ t.length ∧ who.length ≤ 14 ∧ K1 ≤ who.length)) : Calls Try.prog 28 #[planV p, .agg #[va, vt, vz], vw] w fun e w' => e = .returned (.bool true) ∧ Below w.heap.size w w' := by
  have hL := Lib.hid (decide_eq_true hL0)
  have hl : a.length ≤ 240 := by omega
  have t3 : decide ((60 : Int) < (a.length : Int)) = false := decide_eq_false (by omega)
  have hcost := Lib.hid (cost_nat h hn)
  have u1 : IntKind.i64.wrap (p.T + p.L) = (K : Int) := by rw [eK]; exact wrapI _ (by omega) (by have := hL0.2.1; have := hL0.2.2; omega)
  have u1b : IntKind.i64.wrap ((K : Int) + 1) = (K1 : Int) := by rw [eK1]; exact wrapI _ (by omega) (by have := hL0.2.1; have := hL0.2.2; omega)
  replace eK1 := Lib.hid eK1
  by_cases h1 : n ≤ t.length
  · have t5 : ¬ t.length < n := by omega
    by_cases h2 : who.length ≤ 14
    · have t6 : decide ((14 : Int) < (who.length : Int)) = false := decide_eq_false (by omega)
      have t7 : who.length < K1 := by
        have : ¬ K1 ≤ who.length := fun e => hx ⟨h1, h2, e⟩
        omega
      clear hx h1 h2 hn eK
      obtain ⟨Aa, ca, rfl⟩ := rk_form ha
      obtain ⟨At, ct, rfl⟩ := rk_form ht
      obtain ⟨Az, cz, rfl⟩ := rk_form hz
      obtain ⟨Aw, cw, rfl⟩ := rk_form hw
      have HP := (Blk.new w (planC p) 33).alloc (.cells #[.slice Aa a.length ca, .slice At t.length ct, .slice Az z.length cz] 116)
      have HQ := Blk.new' (w.alloc (.cells (planC p) 33)) #[.slice Aa a.length ca, .slice At t.length ct, .slice Az z.length cz] 116 (World.size_alloc _ _)
      have hB := below_alloc (below_alloc (Below.refl w.heap.size w) (.cells (planC p) 33)) (.cells #[.slice Aa a.length ca, .slice At t.length ct, .slice Az z.length cz] 116)
      replace ha := ha.below hB
      replace ht := ht.below hB
      replace hz := hz.below hB
      replace hw := hw.below hB
      go_enter Try.func28, Try.ntmps28
      go_wp2_with fail
      generalize (w.alloc (.cells (planC p) 33)).alloc (.cells #[.slice Aa a.length ca, .slice At t.length ct, .slice Az z.length cz] 116) = w1 at *
      have q0 := HQ.cell 0 _ rfl
      have q1 := HQ.cell 1 _ rfl
      go_quiet (fail)
      replace HP := HP.below (pw_below_drewN (Below.refl _ _) nq)
      replace ha := ha.drewN nq
      replace ht := ht.drewN nq
      replace hz := hz.drewN nq
      replace HQ := HQ.below (pw_below_drewN (Below.refl _ _) nq)
      replace hw := hw.drewN nq
      replace hB := pw_below_drewN hB nq
      clear q0 q1
      generalize w1.drewN nq = w1' at *
      obtain ⟨c0, c1, c2, c3, c4, c5⟩ := cells6 HP
      go_wp2_with fail
      refine (light_c p _).mono ?_
      rintro e w2 ⟨rfl, h2⟩
      rw [hL.out]
      replace HP := HP.below h2
      replace hB := bt_ hB h2
      replace ha := ha.below h2
      replace ht := ht.below h2
      replace hz := hz.below h2
      replace HQ := HQ.below h2
      replace hw := hw.below h2
      clear c0 c1 c2 c3 c4 c5
      obtain ⟨c0, c1, c2, c3, c4, c5⟩ := cells6 HP
      clear h2
      go_wp2_with fail
      refine (rRight_yes p h _).mono ?_
      rintro e w3 ⟨rfl, h3⟩
      replace HP := HP.below h3
      replace hB := bt_ hB h3
      replace ha := ha.below h3
      replace ht := ht.below h3
      replace hz := hz.below h3
      replace HQ := HQ.below h3
      replace hw := hw.below h3
      clear c0 c1 c2 c3 c4 c5
      obtain ⟨c0, c1, c2, c3, c4, c5⟩ := cells6 HP
      clear h3
      go_wp2_with fail
      refine (rCost_c p h a.length hl _).mono ?_
      rintro e w4 ⟨rfl, h4⟩
      rw [hcost.out]
      replace HP := HP.below h4
      replace hB := bt_ hB h4
      replace ha := ha.below h4
      replace ht := ht.below h4
      replace hz := hz.below h4
      replace HQ := HQ.below h4
      replace hw := hw.below h4
      clear c0 c1 c2 c3 c4 c5
      obtain ⟨c0, c1, c2, c3, c4, c5⟩ := cells6 HP
      clear h4
      go_wp2_with fail
      refine (alive13 _).mono ?_
      rintro e w9 ⟨rfl, h⟩
      have hB := bt_ hB h
      clear h
      go_wp2
      go_ret
      exact ⟨rfl, hB⟩
    · have t6 : (14 : Int) < (who.length : Int) := by omega
      clear hx h1 h2 hn eK
      obtain ⟨Aa, ca, rfl⟩ := rk_form ha
      obtain ⟨At, ct, rfl⟩ := rk_form ht
      obtain ⟨Az, cz, rfl⟩ := rk_form hz
      obtain ⟨Aw, cw, rfl⟩ := rk_form hw
      have HP := (Blk.new w (planC p) 33).alloc (.cells #[.slice Aa a.length ca, .slice At t.length ct, .slice Az z.length cz] 116)
      have HQ := Blk.new' (w.alloc (.cells (planC p) 33)) #[.slice Aa a.length ca, .slice At t.length ct, .slice Az z.length cz] 116 (World.size_alloc _ _)
      have hB := below_alloc (below_alloc (Below.refl w.heap.size w) (.cells (planC p) 33)) (.cells #[.slice Aa a.length ca, .slice At t.length ct, .slice Az z.length cz] 116)
      replace ha := ha.below hB
      replace ht := ht.below hB
      replace hz := hz.below hB
      replace hw := hw.below hB
      go_enter Try.func28, Try.ntmps28
      go_wp2_with fail
      generalize (w.alloc (.cells (planC p) 33)).alloc (.cells #[.slice Aa a.length ca, .slice At t.length ct, .slice Az z.length cz] 116) = w1 at *
      have q0 := HQ.cell 0 _ rfl
      have q1 := HQ.cell 1 _ rfl
      go_quiet (fail)
      replace HP := HP.below (pw_below_drewN (Below.refl _ _) nq)
      replace ha := ha.drewN nq
      replace ht := ht.drewN nq
      replace hz := hz.drewN nq
      replace HQ := HQ.below (pw_below_drewN (Below.refl _ _) nq)
      replace hw := hw.drewN nq
      replace hB := pw_below_drewN hB nq
      clear q0 q1
      generalize w1.drewN nq = w1' at *
      obtain ⟨c0, c1, c2, c3, c4, c5⟩ := cells6 HP
      go_wp2_with fail
      refine (light_c p _).mono ?_
      rintro e w2 ⟨rfl, h2⟩
      rw [hL.out]
      replace HP := HP.below h2
      replace hB := bt_ hB h2
      replace ha := ha.below h2
      replace ht := ht.below h2
      replace hz := hz.below h2
      replace HQ := HQ.below h2
      replace hw := hw.below h2
      clear c0 c1 c2 c3 c4 c5
      obtain ⟨c0, c1, c2, c3, c4, c5⟩ := cells6 HP
      clear h2
      go_wp2_with fail
      refine (rRight_yes p h _).mono ?_
      rintro e w3 ⟨rfl, h3⟩
      replace HP := HP.below h3
      replace hB := bt_ hB h3
      replace ha := ha.below h3
      replace ht := ht.below h3
      replace hz := hz.below h3
      replace HQ := HQ.below h3
      replace hw := hw.below h3
      clear c0 c1 c2 c3 c4 c5
      obtain ⟨c0, c1, c2, c3, c4, c5⟩ := cells6 HP
      clear h3
      go_wp2_with fail
      refine (rCost_c p h a.length hl _).mono ?_
      rintro e w4 ⟨rfl, h4⟩
      rw [hcost.out]
      replace HP := HP.below h4
      replace hB := bt_ hB h4
      replace ha := ha.below h4
      replace ht := ht.below h4
      replace hz := hz.below h4
      replace HQ := HQ.below h4
      replace hw := hw.below h4
      clear c0 c1 c2 c3 c4 c5
      obtain ⟨c0, c1, c2, c3, c4, c5⟩ := cells6 HP
      clear h4
      go_wp2_with fail
      refine (alive13 _).mono ?_
      rintro e w9 ⟨rfl, h⟩
      have hB := bt_ hB h
      clear h
      go_wp2
      go_ret
      exact ⟨rfl, hB⟩
  · have t5 : t.length < n := by omega
    clear hx h1 hn eK
    obtain ⟨Aa, ca, rfl⟩ := rk_form ha
    obtain ⟨At, ct, rfl⟩ := rk_form ht
    obtain ⟨Az, cz, rfl⟩ := rk_form hz
    obtain ⟨Aw, cw, rfl⟩ := rk_form hw
    have HP := (Blk.new w (planC p) 33).alloc (.cells #[.slice Aa a.length ca, .slice At t.length ct, .slice Az z.length cz] 116)
    have HQ := Blk.new' (w.alloc (.cells (planC p) 33)) #[.slice Aa a.length ca, .slice At t.length ct, .slice Az z.length cz] 116 (World.size_alloc _ _)
    have hB := below_alloc (below_alloc (Below.refl w.heap.size w) (.cells (planC p) 33)) (.cells #[.slice Aa a.length ca, .slice At t.length ct, .slice Az z.length cz] 116)
    replace ha := ha.below hB
    replace ht := ht.below hB
    replace hz := hz.below hB
    replace hw := hw.below hB
    go_enter Try.func28, Try.ntmps28
    go_wp2_with fail
    generalize (w.alloc (.cells (planC p) 33)).alloc (.cells #[.slice Aa a.length ca, .slice At t.length ct, .slice Az z.length cz] 116) = w1 at *
    have q0 := HQ.cell 0 _ rfl
    have q1 := HQ.cell 1 _ rfl
    go_quiet (fail)
    replace HP := HP.below (pw_below_drewN (Below.refl _ _) nq)
    replace ha := ha.drewN nq
    replace ht := ht.drewN nq
    replace hz := hz.drewN nq
    replace HQ := HQ.below (pw_below_drewN (Below.refl _ _) nq)
    replace hw := hw.drewN nq
    replace hB := pw_below_drewN hB nq
    clear q0 q1
    generalize w1.drewN nq = w1' at *
    obtain ⟨c0, c1, c2, c3, c4, c5⟩ := cells6 HP
    go_wp2_with fail
    refine (light_c p _).mono ?_
    rintro e w2 ⟨rfl, h2⟩
    rw [hL.out]
    replace HP := HP.below h2
    replace hB := bt_ hB h2
    replace ha := ha.below h2
    replace ht := ht.below h2
    replace hz := hz.below h2
    replace HQ := HQ.below h2
    replace hw := hw.below h2
    clear c0 c1 c2 c3 c4 c5
    obtain ⟨c0, c1, c2, c3, c4, c5⟩ := cells6 HP
    clear h2
    go_wp2_with fail
    refine (rRight_yes p h _).mono ?_
    rintro e w3 ⟨rfl, h3⟩
    replace HP := HP.below h3
    replace hB := bt_ hB h3
    replace ha := ha.below h3
    replace ht := ht.below h3
    replace hz := hz.below h3
    replace HQ := HQ.below h3
    replace hw := hw.below h3
    clear c0 c1 c2 c3 c4 c5
    obtain ⟨c0, c1, c2, c3, c4, c5⟩ := cells6 HP
    clear h3
    go_wp2_with fail
    refine (rCost_c p h a.length hl _).mono ?_
    rintro e w4 ⟨rfl, h4⟩
    rw [hcost.out]
    replace HP := HP.below h4
    replace hB := bt_ hB h4
    replace ha := ha.below h4
    replace ht := ht.below h4
    replace hz := hz.below h4
    replace HQ := HQ.below h4
    replace hw := hw.below h4
    clear c0 c1 c2 c3 c4 c5
    obtain ⟨c0, c1, c2, c3, c4, c5⟩ := cells6 HP
    clear h4
    go_wp2_with fail
    refine (alive13 _).mono ?_
    rintro e w9 ⟨rfl, h⟩
    have hB := bt_ hB h
    clear h
    go_wp2
    go_ret
    exact ⟨rfl, hB⟩
set_option maxRecDepth 100000 in
set_option maxHeartbeats 3200000 in
theorem blindBack_4 (p : Pl) (va vt vz vw : Value) (a t z : List F) (who : List Int) (w : World) (ha : Rb w va a) (ht : Rb w vt t) (hz : Rb w vz z) (hw : Ri w vw who) (hL0 : Lite p) (h : p.Ok) (hl60 : a.length ≤ 60) (n : Nat) (hn : p.T.toNat * F.nS p.L.toNat a.length = n) (K : Nat) (eK : p.T + p.L = K) (K1 : Nat) (eK1 : K1 = K + 1) (h1 : n ≤ t.length) (h2 : who.length ≤ 14) (h3 : K1 ≤ who.length) (hu : ¬ (who.map point).Nodup) : Calls Try.prog 28 #[planV p, .agg #[va, vt, vz], vw] w fun e w' => e = .returned (.bool true) ∧ Below w.heap.size w w' := by
  have hL := Lib.hid (decide_eq_true hL0)
  have hl : a.length ≤ 240 := by omega
  have t3 : decide ((60 : Int) < (a.length : Int)) = false := decide_eq_false (by omega)
  have hcost := Lib.hid (cost_nat h hn)
  have u1 : IntKind.i64.wrap (p.T + p.L) = (K : Int) := by rw [eK]; exact wrapI _ (by omega) (by have := hL0.2.1; have := hL0.2.2; omega)
  have u1b : IntKind.i64.wrap ((K : Int) + 1) = (K1 : Int) := by rw [eK1]; exact wrapI _ (by omega) (by have := hL0.2.1; have := hL0.2.2; omega)
  replace eK1 := Lib.hid eK1
  have t5 : ¬ t.length < n := by omega
  have t6 : decide ((14 : Int) < (who.length : Int)) = false := decide_eq_false (by omega)
  have t7 : ¬ who.length < K1 := by omega
  have hud := Lib.hid (decide_eq_false hu)
  clear hn eK
  obtain ⟨Aa, ca, rfl⟩ := rk_form ha
  obtain ⟨At, ct, rfl⟩ := rk_form ht
  obtain ⟨Az, cz, rfl⟩ := rk_form hz
  obtain ⟨Aw, cw, rfl⟩ := rk_form hw
  have HP := (Blk.new w (planC p) 33).alloc (.cells #[.slice Aa a.length ca, .slice At t.length ct, .slice Az z.length cz] 116)
  have HQ := Blk.new' (w.alloc (.cells (planC p) 33)) #[.slice Aa a.length ca, .slice At t.length ct, .slice Az z.length cz] 116 (World.size_alloc _ _)
  have hB := below_alloc (below_alloc (Below.refl w.heap.size w) (.cells (planC p) 33)) (.cells #[.slice Aa a.length ca, .slice At t.length ct, .slice Az z.length cz] 116)
  replace ha := ha.below hB
  replace ht := ht.below hB
  replace hz := hz.below hB
  replace hw := hw.below hB
  go_enter Try.func28, Try.ntmps28
  go_wp2_with fail
  generalize (w.alloc (.cells (planC p) 33)).alloc (.cells #[.slice Aa a.length ca, .slice At t.length ct, .slice Az z.length cz] 116) = w1 at *
  have q0 := HQ.cell 0 _ rfl
  have q1 := HQ.cell 1 _ rfl
  go_quiet (fail)
  replace HP := HP.below (pw_below_drewN (Below.refl _ _) nq)
  replace ha := ha.drewN nq
  replace ht := ht.drewN nq
  replace hz := hz.drewN nq
  replace HQ := HQ.below (pw_below_drewN (Below.refl _ _) nq)
  replace hw := hw.drewN nq
  replace hB := pw_below_drewN hB nq
  clear q0 q1
  generalize w1.drewN nq = w1' at *
  obtain ⟨c0, c1, c2, c3, c4, c5⟩ := cells6 HP
  go_wp2_with fail
  refine (light_c p _).mono ?_
  rintro e w2 ⟨rfl, h2⟩
  rw [hL.out]
  replace HP := HP.below h2
  replace hB := bt_ hB h2
  replace ha := ha.below h2
  replace ht := ht.below h2
  replace hz := hz.below h2
  replace HQ := HQ.below h2
  replace hw := hw.below h2
  clear c0 c1 c2 c3 c4 c5
  obtain ⟨c0, c1, c2, c3, c4, c5⟩ := cells6 HP
  clear h2
  go_wp2_with fail
  refine (rRight_yes p h _).mono ?_
  rintro e w3 ⟨rfl, h3⟩
  replace HP := HP.below h3
  replace hB := bt_ hB h3
  replace ha := ha.below h3
  replace ht := ht.below h3
  replace hz := hz.below h3
  replace HQ := HQ.below h3
  replace hw := hw.below h3
  clear c0 c1 c2 c3 c4 c5
  obtain ⟨c0, c1, c2, c3, c4, c5⟩ := cells6 HP
  clear h3
  go_wp2_with fail
  refine (rCost_c p h a.length hl _).mono ?_
  rintro e w4 ⟨rfl, h4⟩
  rw [hcost.out]
  replace HP := HP.below h4
  replace hB := bt_ hB h4
  replace ha := ha.below h4
  replace ht := ht.below h4
  replace hz := hz.below h4
  replace HQ := HQ.below h4
  replace hw := hw.below h4
  clear c0 c1 c2 c3 c4 c5
  obtain ⟨c0, c1, c2, c3, c4, c5⟩ := cells6 HP
  clear h4
  go_wp2_with fail
  refine (rPoints_c _ who _ hw (by omega)).mono ?_
  rintro e w5 ⟨vP, rfl, oP, h5⟩
  replace HP := HP.below h5
  replace hB := bt_ hB h5
  replace ha := ha.below h5
  replace ht := ht.below h5
  replace hz := hz.below h5
  replace HQ := HQ.below h5
  replace hw := hw.below h5
  clear c0 c1 c2 c3 c4 c5
  obtain ⟨c0, c1, c2, c3, c4, c5⟩ := cells6 HP
  clear h5
  go_wp2_with fail
  refine (rUnlike_c _ _ _ oP.rk).mono ?_
  rintro e w6 ⟨rfl, h6⟩
  rw [hud.out]
  replace h6 := h6.below
  replace HP := HP.below h6
  replace hB := bt_ hB h6
  replace ha := ha.below h6
  replace ht := ht.below h6
  replace hz := hz.below h6
  replace HQ := HQ.below h6
  replace hw := hw.below h6
  clear c0 c1 c2 c3 c4 c5
  obtain ⟨c0, c1, c2, c3, c4, c5⟩ := cells6 HP
  clear h6 oP
  go_wp2_with fail
  refine (alive13 _).mono ?_
  rintro e w9 ⟨rfl, h⟩
  have hB := bt_ hB h
  clear h
  go_wp2
  go_ret
  exact ⟨rfl, hB⟩
set_option maxRecDepth 100000 in
set_option maxHeartbeats 12800000 in
theorem blindBack_5 (p : Pl) (va vt vz vw : Value) (a t z : List F) (who : List Int) (w : World) (ha : Rb w va a) (ht : Rb w vt t) (hz : Rb w vz z) (hw : Ri w vw who) (hL0 : Lite p) (h : p.Ok) (hl60 : a.length ≤ 60) (n : Nat) (hn : p.T.toNat * F.nS p.L.toNat a.length = n) (K : Nat) (eK : p.T + p.L = K) (K1 : Nat) (eK1 : K1 = K + 1) (h1 : n ≤ t.length) (h2 : who.length ≤ 14) (h3 : K1 ≤ who.length) (hu : (who.map point).Nodup) : Calls Try.prog 28 #[planV p, .agg #[va, vt, vz], vw] w fun e w' => e = .returned (.bool true) ∧ Below w.heap.size w w' := by
  have hL := Lib.hid (decide_eq_true hL0)
  have hl : a.length ≤ 240 := by omega
  have t3 : decide ((60 : Int) < (a.length : Int)) = false := decide_eq_false (by omega)
  have hcost := Lib.hid (cost_nat h hn)
  have u1 : IntKind.i64.wrap (p.T + p.L) = (K : Int) := by rw [eK]; exact wrapI _ (by omega) (by have := hL0.2.1; have := hL0.2.2; omega)
  have u1b : IntKind.i64.wrap ((K : Int) + 1) = (K1 : Int) := by rw [eK1]; exact wrapI _ (by omega) (by have := hL0.2.1; have := hL0.2.2; omega)
  have t5 : ¬ t.length < n := by omega
  have t6 : decide ((14 : Int) < (who.length : Int)) = false := decide_eq_false (by omega)
  have t7 : ¬ who.length < K1 := by omega
  have hud := Lib.hid (decide_eq_true hu)
  have hK : Hid (K < 255) := Lib.hid (by have := hL0.2.1; have := hL0.2.2; omega)
  have hst : Hid (stripesOf p (a.length : Int) = (F.nS p.L.toNat a.length : Int)) := Lib.hid (stripes_nat h a.length hl)
  have hTT : 1 ≤ p.T ∧ p.T ≤ 12 ∧ 1 ≤ p.L ∧ p.L ≤ 12 := ⟨h.t, hL0.2.2, h.l, hL0.2.1⟩
  have hpt : Hid (p.T.toNat * F.nS p.L.toNat a.length ≤ t.length) := Lib.hid (by rw [hn]; exact h1)
  have hS60 : F.nS p.L.toNat a.length ≤ 60 := Nat.le_trans (F.nS_le_len p.L.toNat a.length (by omega)) hl60
  obtain ⟨Wd, hWd⟩ : ∃ Wd, Wd = K - 1 := ⟨_, rfl⟩
  have hW : Wd + 1 = K := by omega
  have hW1 : 1 ≤ Wd := by omega
  have hW24 : Wd ≤ 24 := by omega
  obtain ⟨Cs, hCs⟩ : ∃ Cs, Wd * F.nS p.L.toNat a.length = Cs := ⟨_, rfl⟩
  have hCs9 : Cs ≤ 1440 := by rw [← hCs]; exact Nat.le_trans (Nat.mul_le_mul hW24 hS60) (by decide)
  have uw : Hid (p.T + p.L - 1 = (Wd : Int)) := Lib.hid (by omega)
  have uc : IntKind.i64.wrap ((Wd : Int) * (F.nS p.L.toNat a.length : Int)) = (Cs : Int) := by
    rw [← Int.natCast_mul, hCs]
    exact wrapI _ (by omega) (by omega)
  have eN : (p.N.toNat : Int) = p.N := by have := h.tl; have := h.wn; omega
  have tN : ((p.N.toNat : Int) != p.N) = false := by rw [eN]; simp
  have hN9 := hL0.1
  have hk3 : 3 ≤ who.length := by omega
  replace hn := Lib.hid hn
  replace eK := Lib.hid eK
  replace eK1 := Lib.hid eK1
  replace hu := Lib.hid hu
  replace h1 := Lib.hid h1
  replace h3 := Lib.hid h3
  replace hCs := Lib.hid hCs
  replace hW := Lib.hid hW
  clear hWd
  obtain ⟨Aa, ca, rfl⟩ := rk_form ha
  obtain ⟨At, ct, rfl⟩ := rk_form ht
  obtain ⟨Az, cz, rfl⟩ := rk_form hz
  obtain ⟨Aw, cw, rfl⟩ := rk_form hw
  have HP := (Blk.new w (planC p) 33).alloc (.cells #[.slice Aa a.length ca, .slice At t.length ct, .slice Az z.length cz] 116)
  have HQ := Blk.new' (w.alloc (.cells (planC p) 33)) #[.slice Aa a.length ca, .slice At t.length ct, .slice Az z.length cz] 116 (World.size_alloc _ _)
  have hB := below_alloc (below_alloc (Below.refl w.heap.size w) (.cells (planC p) 33)) (.cells #[.slice Aa a.length ca, .slice At t.length ct, .slice Az z.length cz] 116)
  replace ha := ha.below hB
  replace ht := ht.below hB
  replace hz := hz.below hB
  replace hw := hw.below hB
  go_enter Try.func28, Try.ntmps28
  go_wp2_with fail
  generalize (w.alloc (.cells (planC p) 33)).alloc (.cells #[.slice Aa a.length ca, .slice At t.length ct, .slice Az z.length cz] 116) = w1 at *
  have q0 := HQ.cell 0 _ rfl
  have q1 := HQ.cell 1 _ rfl
  go_quiet (fail)
  replace HP := HP.below (pw_below_drewN (Below.refl _ _) nq)
  replace ha := ha.drewN nq
  replace ht := ht.drewN nq
  replace hz := hz.drewN nq
  replace HQ := HQ.below (pw_below_drewN (Below.refl _ _) nq)
  replace hw := hw.drewN nq
  replace hB := pw_below_drewN hB nq
  clear q0 q1
  generalize w1.drewN nq = w1' at *
  obtain ⟨c0, c1, c2, c3, c4, c5⟩ := cells6 HP
  go_wp2_with fail
  refine (light_c p _).mono ?_
  rintro e w2 ⟨rfl, h2⟩
  rw [hL.out]
  replace HP := HP.below h2
  replace hB := bt_ hB h2
  replace ha := ha.below h2
  replace ht := ht.below h2
  replace hz := hz.below h2
  replace HQ := HQ.below h2
  replace hw := hw.below h2
  clear c0 c1 c2 c3 c4 c5
  obtain ⟨c0, c1, c2, c3, c4, c5⟩ := cells6 HP
  clear h2
  go_wp2_with fail
  refine (rRight_yes p h _).mono ?_
  rintro e w3 ⟨rfl, h3⟩
  replace HP := HP.below h3
  replace hB := bt_ hB h3
  replace ha := ha.below h3
  replace ht := ht.below h3
  replace hz := hz.below h3
  replace HQ := HQ.below h3
  replace hw := hw.below h3
  clear c0 c1 c2 c3 c4 c5
  obtain ⟨c0, c1, c2, c3, c4, c5⟩ := cells6 HP
  clear h3
  go_wp2_with fail
  refine (rCost_c p h a.length hl _).mono ?_
  rintro e w4 ⟨rfl, h4⟩
  rw [hcost.out]
  replace HP := HP.below h4
  replace hB := bt_ hB h4
  replace ha := ha.below h4
  replace ht := ht.below h4
  replace hz := hz.below h4
  replace HQ := HQ.below h4
  replace hw := hw.below h4
  clear c0 c1 c2 c3 c4 c5
  obtain ⟨c0, c1, c2, c3, c4, c5⟩ := cells6 HP
  clear h4
  go_wp2_with fail
  refine (rPoints_c _ who _ hw (by omega)).mono ?_
  rintro e w5 ⟨vP, rfl, oP, h5⟩
  replace HP := HP.below h5
  replace hB := bt_ hB h5
  replace ha := ha.below h5
  replace ht := ht.below h5
  replace hz := hz.below h5
  replace HQ := HQ.below h5
  replace hw := hw.below h5
  clear c0 c1 c2 c3 c4 c5
  obtain ⟨c0, c1, c2, c3, c4, c5⟩ := cells6 HP
  clear h5
  go_wp2_with fail
  refine (rUnlike_c _ _ _ oP.rk).mono ?_
  rintro e w6 ⟨rfl, h6⟩
  rw [hud.out]
  replace h6 := h6.below
  replace HP := HP.below h6
  replace hB := bt_ hB h6
  replace ha := ha.below h6
  replace ht := ht.below h6
  replace hz := hz.below h6
  replace HQ := HQ.below h6
  replace hw := hw.below h6
  clear c0 c1 c2 c3 c4 c5
  obtain ⟨c0, c1, c2, c3, c4, c5⟩ := cells6 HP
  clear h6 oP
  go_wp2_with fail
  refine (rStripes_c p h (a.length : Int) _).mono ?_
  rintro e w4 ⟨rfl, h4⟩
  rw [hst.out]
  replace HP := HP.below h4
  replace hB := bt_ hB h4
  replace ha := ha.below h4
  replace ht := ht.below h4
  replace hz := hz.below h4
  replace HQ := HQ.below h4
  replace hw := hw.below h4
  clear c0 c1 c2 c3 c4 c5
  obtain ⟨c0, c1, c2, c3, c4, c5⟩ := cells6 HP
  clear h4
  go_wp2_with fail
  refine (rWidth13_c p h _).mono ?_
  rintro e w4 ⟨rfl, h4⟩
  rw [uw.out]
  replace HP := HP.below h4
  replace hB := bt_ hB h4
  replace ha := ha.below h4
  replace ht := ht.below h4
  replace hz := hz.below h4
  replace HQ := HQ.below h4
  replace hw := hw.below h4
  clear c0 c1 c2 c3 c4 c5
  obtain ⟨c0, c1, c2, c3, c4, c5⟩ := cells6 HP
  clear h4
  go_wp2_with fail
  refine (new_x _).mono ?_
  rintro e w3 ⟨bF, rfl, hF, h4⟩
  replace HP := HP.below h4
  replace hB := bt_ hB h4
  replace ha := ha.below h4
  replace ht := ht.below h4
  replace hz := hz.below h4
  replace HQ := HQ.below h4
  replace hw := hw.below h4
  clear c0 c1 c2 c3 c4 c5
  obtain ⟨c0, c1, c2, c3, c4, c5⟩ := cells6 HP
  clear h4
  go_wp2_with fail
  refine (rPolys10_c p h _ _ a t _ ha ht hl hpt.out).mono ?_
  rintro e w4 ⟨vP, rfl, oP, h4⟩
  replace hF := hF.below h4
  have hPo := oP.rk
  replace HP := HP.below h4
  replace hB := bt_ hB h4
  replace ha := ha.below h4
  replace ht := ht.below h4
  replace hz := hz.below h4
  replace HQ := HQ.below h4
  replace hw := hw.below h4
  clear c0 c1 c2 c3 c4 c5
  obtain ⟨c0, c1, c2, c3, c4, c5⟩ := cells6 HP
  clear h4 oP
  obtain ⟨AP, cP, rfl⟩ := rk_form hPo
  generalize hS : F.nS p.L.toNat a.length = S at *
  replace hS := Lib.hid hS
  obtain ⟨t0, hs, rfl⟩ : ∃ t0 hs, who = t0 :: hs := by
    cases who with
    | nil => simp at hk3
    | cons x y => exact ⟨x, y, rfl⟩
  obtain ⟨adw, e0, d0⟩ := ki_at (ri_C hw) 0 (by omega)
  subst e0
  have hcw := rk_cap hw
  rw [List.length_cons] at *
  have d0 : w4.cell? (adw.add 0) = some (.int .i64 t0) := d0
  rw [add_0] at d0
  have hcw1 : ¬ cw = 1 := by omega
  have hhs0 : Ri w4 (.slice (some (adw.add 1)) hs.length (cw - 1)) hs := rk_drop hw (m := 1) (by rw [List.length_cons]; omega) rfl (by omega)
  go_wp2_with fail
  go_quiet (fail)
  have hX := pw_below_drewN (Below.refl w4.heap.size w4) nq
  replace HP := HP.below hX
  replace HQ := HQ.below hX
  replace hB := bt_ hB hX
  replace hz := hz.below hX
  replace hw := hw.below hX
  replace hF := hF.below hX
  replace hPo := hPo.below hX
  replace hhs0 := hhs0.below hX
  clear hX c0 c1 c2 c3 c4 c5 ha ht
  generalize w4.drewN nq = w7 at *
  replace hhs0 : Ri w7 (.slice (some ⟨adw.block, adw.off + 1, none⟩) hs.length (cw - 1)) hs := hhs0
  generalize (⟨adw.block, adw.off + 1, none⟩ : Addr) = adh at *
  go_wp2_with fail
  go_loopw [17, 96] (fun _ i wr => ∃ k : Nat, k ≤ hs.length + 1 ∧ i = .int .i64 k ∧ Hid (∀ j ∈ (t0 :: hs).take k, 1 ≤ j ∧ j ≤ p.N) ∧ Below w7.heap.size w7 wr) (fun _ i _ => hs.length + 1 - (intOf i).toNat)
  case atStart => exact ⟨0, by omega, rfl, Lib.hid (fun j hj => by simp at hj), Below.refl _ _⟩
  case round =>
    obtain ⟨k, hk, rfl, hus, hD⟩ := hrel
    by_cases hlt : k < hs.length + 1
    · obtain ⟨ad, e1, d9⟩ := ki_at (ri_C hw) k (by rw [List.length_cons]; exact hlt)
      injection e1 with e1
      subst e1
      replace d9 := pw_cell_below hD d9
      have hti := Lib.hid (take_snoc' (t0 :: hs) k 0 (by rw [List.length_cons]; exact hlt))
      have hki : (k : Int) < (hs.length : Int) + 1 := by omega
      generalize (t0 :: hs).getD k 0 = i at *
      obtain ⟨c0, c1, c2, c3, c4, c5⟩ := cells6 (HP.below hD)
      by_cases hin : 1 ≤ i ∧ i ≤ p.N
      · have hd := Lib.hid (decide_eq_true hin)
        replace hin := Lib.hid hin
        go_wp2_with fail
        refine (rIs_c p i _).mono ?_
        rintro e w5 ⟨rfl, h5⟩
        rw [hd.out]
        go_wp2
        refine ⟨⟨k + 1, by omega, by go_num, Lib.hid (fun j hj => ?_), bt_ hD h5⟩, by simp [intOf]; try omega⟩
        rw [hti.out] at hj
        rcases List.mem_append.1 hj with hj | hj
        · exact hus.out j hj
        · have : j = i := by simpa using hj
          rw [this]; exact hin.out
      · have hd := Lib.hid (decide_eq_false hin)
        go_wp2_with fail
        refine (rIs_c p i _).mono ?_
        rintro e w5 ⟨rfl, h5⟩
        rw [hd.out]
        have hB := bt_ (bt_ hB hD) h5
        go_wp2_with fail
        refine (alive13 _).mono ?_
        rintro e w9 ⟨rfl, h⟩
        have hB := bt_ hB h
        clear h
        go_wp2
        go_ret
        exact ⟨rfl, hB⟩
    · obtain rfl : k = hs.length + 1 := by omega
      have hgw : ∀ i ∈ (t0 :: hs), 1 ≤ i ∧ i ≤ p.N := fun i hi => hus.out i (by rw [List.take_of_length_le (by rw [List.length_cons]; omega)]; exact hi)
      have hgt := hgw t0 (List.mem_cons_self ..)
      have hgh := Lib.hid (fun i hi => hgw i (List.mem_cons_of_mem _ hi))
      clear hgw hus hlt hk
      replace HP := HP.below hD
      replace HQ := HQ.below hD
      replace hB := bt_ hB hD
      replace hz := hz.below hD
      replace hF := hF.below hD
      replace hPo := hPo.below hD
      have hhs := hhs0.below hD
      clear hD hw hhs0 d0
      generalize wr = wb at *
      have hPl : Hid ((polysOf p a t).length ≤ 1000000) := Lib.hid (by rw [polys_len, hS.out]; omega)
      have hdd : Hid (∀ x, (polysOf p a t).map (F.ev x) = F.dshare (polysOf p a t) x) := Lib.hid (fun x => rfl)
      go_wp2_with fail
      go_loopw [15, 19, 108] (fun s _ i wr => ∃ k : Nat, k ≤ hs.length ∧ i = .int .i64 k ∧ Obb wb wr s ((hs.take k).map fun i => F.dshare (polysOf p a t) (point i)) ∧ Below wb.heap.size wb wr) (fun _ _ i _ => hs.length - (intOf i).toNat)
      case atStart => exact ⟨0, by omega, rfl, Own.nil _ _ _ _, Below.refl _ _⟩
      case round =>
        obtain ⟨k, hk, rfl, hO, hD⟩ := hrel
        by_cases hlt : k < hs.length
        · obtain ⟨ad, e1, d9⟩ := ki_at (ri_C hhs) k hlt
          injection e1 with e1
          subst e1
          replace d9 := pw_cell_below hD d9
          have hti := Lib.hid (take_snoc' hs k 0 hlt)
          have hlen2 : Hid (((hs.take k).map fun i => F.dshare (polysOf p a t) (point i)).length + 1 ≤ 5000000000) := Lib.hid (by rw [List.length_map, List.length_take]; omega)
          generalize hs.getD k 0 = i at *
          go_wp2_with fail
          refine (rShare10_c _ (polysOf p a t) i _ (hPo.below hD) hPl.out).mono ?_
          rintro e w6 ⟨vM, rfl, sM, h6⟩
          rw [hdd.out] at sM
          replace sM := sM.lower (w0 := wb) hD
          replace hO := hO.below h6
          have hDn := bt_ hD h6
          generalize hrow : F.dshare (polysOf p a t) (point i) = row at *
          replace hrow := Lib.hid hrow
          obtain ⟨A6, c6, rfl⟩ := rk_form sM.rk
          go_wp2_with (at_builtin; refine app_row rfl (.tmp 112) (.tmp 116) 66 40 rfl Try.underlying66 infoR (by decide) _ _ _ _ rfl rfl hO sM hDn ?hl ?_; (case hl => (first | (simp; omega) | omega)); intro v1 w1 ho hb hg)
          refine ⟨⟨v1, _, _, _, _, _, _, _, _, _, _, _, _, ⟨k + 1, by omega, ?_, ?_, hb⟩, rfl⟩, ?_⟩
          · go_num
          · rw [hti.out, List.map_append]
            show Own _ _ _ _ _ (_ ++ [F.dshare (polysOf p a t) (point i)])
            rw [hrow.out]
            exact ho
          · simp [intOf]
            try omega
        · obtain rfl : k = hs.length := by omega
          rw [List.take_length] at hO
          have hhp : 0 < hs.length := by omega
          obtain ⟨g, cp, vs, e9, hcap, hPr⟩ := obb_prs hO (by rw [List.length_map]; exact hhp)
          subst e9
          rw [List.length_map] at hcap hPr ⊢
          have hPr0 : Prs wb wr g hs.length vs (fun q => bpS p a t z (point t0) Wd Cs 0 (point (hs.getD q 0))) := hPr.congr (fun q hq => by rw [map_getD hs _ 0 [] q hq, bpS_0])
          clear hPr hO
          have hfin : Hid (∀ k, k * Cs ≤ z.length → F.findOf ((hs.take K).map point) (point t0) ((hs.map fun i => bpS p a t z (point t0) Wd Cs k (point i)).take K) S = F.dshare (polysOf p a t) (point t0)) := Lib.hid (fun k hkz => by
            rw [← hS.out]
            exact bp_find p h K eK.out hK.out a t z t0 Wd Cs hW.out hW1 (by rw [hS.out]; exact hCs.out) (by rw [hS.out]; exact hpt.out) k hkz hs (by have := hu.out; rw [List.map_cons] at this; exact (List.nodup_cons.1 this).2) (by have := h3.out; have := eK1.out; omega))
          have ham : Hid (∀ k, amE p S t0 hs (hs.map fun i => bpS p a t z (point t0) Wd Cs k (point i)) = 0) := Lib.hid (fun k => by
            have hn0 := map_nodup hu.out
            refine amE_good hgh.out (List.nodup_cons.1 hn0).1 (List.nodup_cons.1 hn0).2 (by have := h3.out; have := eK1.out; have := eK.out; omega) (by rw [List.length_map]) (fun r hr => ?_)
            obtain ⟨i, _, rfl⟩ := List.mem_map.1 hr
            rw [bpS_len, hS.out])
          have hrng : Hid (∀ f : Int → List F, (List.range hs.length).map (fun q => f (hs.getD q 0)) = hs.map f) := Lib.hid (fun f => by
            apply List.ext_getElem
            · simp
            · intro j h1 h2
              have hj : j < hs.length := by simpa using h1
              simp [List.getD_eq_getElem?_getD, hj])
          have hzl := kb_len (rk_C hz)
          go_wp2_with fail
          go_loopw [20, 21, 22, 23, 24] (fun i _ _ _ _ wr => ∃ (k : Nat) (vs' : Nat → Value), k ≤ 3 ∧ i = .int .i64 k ∧ Hid (k * Cs ≤ z.length) ∧ Prs wb wr g hs.length vs' (fun q => bpS p a t z (point t0) Wd Cs k (point (hs.getD q 0))) ∧ Below wb.heap.size wb wr) (fun i _ _ _ _ _ => 3 - (intOf i).toNat)
          case atStart => exact ⟨0, vs, by omega, rfl, Lib.hid (by omega), hPr0, hD⟩
          case round =>
            clear hPr0 hD
            obtain ⟨k, vs', hk, rfl, hkz0, hPr, hD⟩ := hrel
            obtain ⟨c0, c1, c2, c3, c4, c5⟩ := cells6 (HP.below hD)
            have q2 : _ = some (Value.slice Az z.length cz) := (HQ.below hD).cell 2 _ rfl
            obtain ⟨kc, hkc⟩ : ∃ kc, kc = k * Cs := ⟨_, rfl⟩
            have hkc9 : kc ≤ 4320 := by rw [hkc]; exact Nat.le_trans (Nat.mul_le_mul hk hCs9) (by decide)
            have mk : (k : Int) * (Cs : Int) = (kc : Int) := by rw [hkc, Int.natCast_mul]
            have hkz : kc ≤ z.length := by rw [hkc]; exact hkz0.out
            have ukc : IntKind.i64.wrap (kc : Int) = (kc : Int) := wrapI _ (by omega) (by omega)
            have uzk : IntKind.i64.wrap ((z.length : Int) - (kc : Int)) = (z.length : Int) - (kc : Int) := wrapI _ (by omega) (by omega)
            replace hkc := Lib.hid hkc
            by_cases hk3' : k < 3
            · have tk : decide ((k : Int) < 3) = true := decide_eq_true (by omega)
              by_cases hr : Cs + kc ≤ z.length
              · have tr : decide ((Cs : Int) ≤ (z.length : Int) - (kc : Int)) = true := decide_eq_true (by omega)
                generalize wr = wK at *
                have hgK : g < wK.heap.size := by
                  obtain ⟨cs9, hc9, _, _⟩ := hPr.typ
                  exact blk_lt hc9
                have hbl : Hid (∀ (v : Value) (W : World), IsField W bF → Rb W v (z.drop kc) → Calls Try.prog 95 #[fp bF, planV p, .int .i64 (S : Int), .int .i64 t0, v] W fun e W' => ∃ y, e = .returned (.tuple #[y, .int .i64 0]) ∧ Obb W W' y (((allOf p).map point).map (bsh Wd (point t0) (z.drop kc) S)) ∧ Below W.heap.size W W') := Lib.hid (fun v W f1 f2 => bBlind_ok bF p h S t0 (by omega) hgt Wd uw.out v (z.drop kc) W f1 f2 (by rw [List.length_drop]; have := hCs.out; omega))
                have hlB : Hid ((((allOf p).map point).map (bsh Wd (point t0) (z.drop kc) S)).length = p.N.toNat) := Lib.hid (by rw [List.length_map, List.length_map, all_len])
                have hatB : Hid (∀ (m : Nat), m < p.N.toNat → (((allOf p).map point).map (bsh Wd (point t0) (z.drop kc) S)).getD m [] = bsh Wd (point t0) (z.drop kc) S (point ((m : Int) + 1))) := Lib.hid (fun m hm => by
                  rw [map_getD _ _ 0 [] m (by rw [List.length_map, all_len]; exact hm), map_getD (allOf p) point 0 0 m (by rw [all_len]; exact hm), all_getD p m hm])
                have hstep : Hid (∀ x, F.addAll [bpS p a t z (point t0) Wd Cs k x, bsh Wd (point t0) (z.drop kc) S x] = bpS p a t z (point t0) Wd Cs (k + 1) x) := Lib.hid (fun x => by rw [hkc.out, ← hS.out]; exact bpS_step p a t z (point t0) Wd Cs k x)
                have hrl2 : Hid (∀ x, ∀ r ∈ [bpS p a t z (point t0) Wd Cs k x, bsh Wd (point t0) (z.drop kc) S x], r.length ≤ 1000000) := Lib.hid (fun x r hr => by
                  simp only [List.mem_cons, List.not_mem_nil, or_false] at hr
                  rcases hr with rfl | rfl
                  · rw [bpS_len, hS.out]; omega
                  · rw [bsh_len]; omega)
                generalize hBke : ((allOf p).map point).map (bsh Wd (point t0) (z.drop kc) S) = Bk at *
                replace hBke := Lib.hid hBke
                go_wp2_with fail
                clear c0 c1 c2 c3 c4 c5 q2
                refine wp_region_tell [.v (fp bF), .v (planV p), .v (.int .i64 (S : Int)), .v (.int .i64 t0), .v (.pointer (some ⟨w.heap.size + 1, 2, none⟩)), .v (.slice Az z.length cz), .v (.int .i64 (k : Int)), .v (.int .i64 (Cs : Int)), .v (.int .i64 (kc : Int)), .p (isB (z.drop kc)), .p (isTOO wK Bk (.int .i64 0)), .p (isTOO wK Bk (.int .i64 0)), .p (isOO wK Bk), .v (.int .i64 0), .p (isOO wK Bk), .v (.int .i64 0)] [([], none), ([], none), ([], none), ([], none), ([], none), ([(4, some 139)], none), ([], none), ([], none), ([(6, some 141), (7, some 142)], none), ([(5, some 140), (8, some 143)], none), ([(0, some 135), (1, some 136), (2, some 137), (3, some 138), (9, some 144)], none), ([(10, some 145)], none), ([(11, some 134)], none), ([(11, some 134)], none), ([(12, some 146)], none), ([(13, some 147)], none)] [(0, some 135), (1, some 136), (2, some 137), (3, some 138), (4, some 139), (5, some 140), (6, some 141), (7, some 142), (8, some 143), (9, some 144), (10, some 145), (11, some 134), (12, some 146), (13, some 147), (14, some 21), (15, some 22)] (by kernel_rfl) (by kernel_rfl) (by kernel_rfl) (by kernel_rfl) (by exact ⟨trivial, trivial, trivial, trivial, trivial, trivial, trivial, trivial, trivial, last_B _, last_TOO _ _ _, last_TOO _ _ _, last_OO _ _, trivial, last_OO _ _, trivial, trivial⟩) ⟨?s0, ?s1, ?s2, ?s3, ?s4, ?s5, ?s6, ?s7, ?s8, ?s9, ?s10, ?s11, ?s12, ?s13, ?s14, ?s15, trivial⟩ ?hQ
                case s0 =>
                  intro W hB K hK
                  simp only [tellK, Act.put, List.setIfInBounds_toArray, List.set_cons_zero, List.set_cons_succ] at hK ⊢
                  refine tell_do rfl ?_
                  obtain ⟨c0, c1, c2, c3, c4, c5⟩ := cells6 (HP.below (bt_ hD hB)); have q2 : _ = some (Value.slice Az z.length cz) := (HQ.below (bt_ hD hB)).cell 2 _ rfl
                  go_simp
                  exact hK _ (Below.refl _ _)
                case s1 =>
                  intro W hB K hK
                  simp only [tellK, Act.put, List.setIfInBounds_toArray, List.set_cons_zero, List.set_cons_succ] at hK ⊢
                  refine tell_do rfl ?_
                  obtain ⟨c0, c1, c2, c3, c4, c5⟩ := cells6 (HP.below (bt_ hD hB)); have q2 : _ = some (Value.slice Az z.length cz) := (HQ.below (bt_ hD hB)).cell 2 _ rfl
                  go_simp
                  exact hK _ (Below.refl _ _)
                case s2 =>
                  intro W hB K hK
                  simp only [tellK, Act.put, List.setIfInBounds_toArray, List.set_cons_zero, List.set_cons_succ] at hK ⊢
                  refine tell_do rfl ?_
                  obtain ⟨c0, c1, c2, c3, c4, c5⟩ := cells6 (HP.below (bt_ hD hB)); have q2 : _ = some (Value.slice Az z.length cz) := (HQ.below (bt_ hD hB)).cell 2 _ rfl
                  go_simp
                  exact hK _ (Below.refl _ _)
                case s3 =>
                  intro W hB K hK
                  simp only [tellK, Act.put, List.setIfInBounds_toArray, List.set_cons_zero, List.set_cons_succ] at hK ⊢
                  refine tell_do rfl ?_
                  obtain ⟨c0, c1, c2, c3, c4, c5⟩ := cells6 (HP.below (bt_ hD hB)); have q2 : _ = some (Value.slice Az z.length cz) := (HQ.below (bt_ hD hB)).cell 2 _ rfl
                  go_simp
                  exact hK _ (Below.refl _ _)
                case s4 =>
                  intro W hB K hK
                  simp only [tellK, Act.put, List.setIfInBounds_toArray, List.set_cons_zero, List.set_cons_succ] at hK ⊢
                  refine tell_do rfl ?_
                  obtain ⟨c0, c1, c2, c3, c4, c5⟩ := cells6 (HP.below (bt_ hD hB)); have q2 : _ = some (Value.slice Az z.length cz) := (HQ.below (bt_ hD hB)).cell 2 _ rfl
                  go_simp
                  exact hK _ (Below.refl _ _)
                case s5 =>
                  intro W hB K hK
                  simp only [tellK, Act.put, List.setIfInBounds_toArray, List.set_cons_zero, List.set_cons_succ] at hK ⊢
                  refine tell_do rfl ?_
                  obtain ⟨c0, c1, c2, c3, c4, c5⟩ := cells6 (HP.below (bt_ hD hB)); have q2 : _ = some (Value.slice Az z.length cz) := (HQ.below (bt_ hD hB)).cell 2 _ rfl
                  go_simp
                  exact hK _ (Below.refl _ _)
                case s6 =>
                  intro W hB K hK
                  simp only [tellK, Act.put, List.setIfInBounds_toArray, List.set_cons_zero, List.set_cons_succ] at hK ⊢
                  refine tell_do rfl ?_
                  obtain ⟨c0, c1, c2, c3, c4, c5⟩ := cells6 (HP.below (bt_ hD hB)); have q2 : _ = some (Value.slice Az z.length cz) := (HQ.below (bt_ hD hB)).cell 2 _ rfl
                  go_simp
                  exact hK _ (Below.refl _ _)
                case s7 =>
                  intro W hB K hK
                  simp only [tellK, Act.put, List.setIfInBounds_toArray, List.set_cons_zero, List.set_cons_succ] at hK ⊢
                  refine tell_do rfl ?_
                  obtain ⟨c0, c1, c2, c3, c4, c5⟩ := cells6 (HP.below (bt_ hD hB)); have q2 : _ = some (Value.slice Az z.length cz) := (HQ.below (bt_ hD hB)).cell 2 _ rfl
                  go_simp
                  exact hK _ (Below.refl _ _)
                case s8 =>
                  intro W hB K hK
                  simp only [tellK, Act.put, List.setIfInBounds_toArray, List.set_cons_zero, List.set_cons_succ] at hK ⊢
                  refine tell_do rfl ?_
                  obtain ⟨c0, c1, c2, c3, c4, c5⟩ := cells6 (HP.below (bt_ hD hB)); have q2 : _ = some (Value.slice Az z.length cz) := (HQ.below (bt_ hD hB)).cell 2 _ rfl
                  go_simp
                  exact hK _ (Below.refl _ _)
                case s9 =>
                  intro W hB K hK
                  simp only [tellK, Act.put, List.setIfInBounds_toArray, List.set_cons_zero, List.set_cons_succ] at hK ⊢
                  refine tell_do rfl ?_
                  obtain ⟨c0, c1, c2, c3, c4, c5⟩ := cells6 (HP.below (bt_ hD hB)); have q2 : _ = some (Value.slice Az z.length cz) := (HQ.below (bt_ hD hB)).cell 2 _ rfl
                  go_simp
                  exact hK _ _ (rk_dropO (hz.below (bt_ hD hB)) hkz) (Below.refl _ _)
                case s10 =>
                  intro W hB v9 h9 K hK
                  replace h9 : Rb W v9 (z.drop kc) := h9
                  simp only [tellK, Act.put, List.setIfInBounds_toArray, List.set_cons_zero, List.set_cons_succ] at hK ⊢
                  refine tell_do rfl ?_
                  obtain ⟨c0, c1, c2, c3, c4, c5⟩ := cells6 (HP.below (bt_ hD hB)); have q2 : _ = some (Value.slice Az z.length cz) := (HQ.below (bt_ hD hB)).cell 2 _ rfl
                  go_simp
                  go_at_call 95; refine (hbl.out _ _ (hF.below (bt_ hD hB)) h9).mono ?_; rintro e w6 ⟨y, rfl, hY, h6⟩; exact hK _ _ ⟨y, rfl, hY.lower hB⟩ h6
                case s11 =>
                  intro W hB v10 h10 K hK
                  simp only [tellK, Act.put, List.setIfInBounds_toArray, List.set_cons_zero, List.set_cons_succ] at hK ⊢
                  refine tell_do rfl ?_
                  obtain ⟨c0, c1, c2, c3, c4, c5⟩ := cells6 (HP.below (bt_ hD hB)); have q2 : _ = some (Value.slice Az z.length cz) := (HQ.below (bt_ hD hB)).cell 2 _ rfl
                  obtain ⟨y, rfl, hY⟩ := h10; go_simp; exact hK _ _ ⟨_, rfl, hY⟩ (Below.refl _ _)
                case s12 =>
                  intro W hB v11 h11 K hK
                  simp only [tellK, Act.put, List.setIfInBounds_toArray, List.set_cons_zero, List.set_cons_succ] at hK ⊢
                  refine tell_do rfl ?_
                  obtain ⟨c0, c1, c2, c3, c4, c5⟩ := cells6 (HP.below (bt_ hD hB)); have q2 : _ = some (Value.slice Az z.length cz) := (HQ.below (bt_ hD hB)).cell 2 _ rfl
                  obtain ⟨y, rfl, hY⟩ := h11; go_simp; exact hK _ _ hY (Below.refl _ _)
                case s13 =>
                  intro W hB v11 h11 K hK
                  simp only [tellK, Act.put, List.setIfInBounds_toArray, List.set_cons_zero, List.set_cons_succ] at hK ⊢
                  refine tell_do rfl ?_
                  obtain ⟨c0, c1, c2, c3, c4, c5⟩ := cells6 (HP.below (bt_ hD hB)); have q2 : _ = some (Value.slice Az z.length cz) := (HQ.below (bt_ hD hB)).cell 2 _ rfl
                  obtain ⟨y, rfl, hY⟩ := h11; go_simp; exact hK _ (Below.refl _ _)
                case s14 =>
                  intro W hB v12 h12 K hK
                  replace h12 : Obb wK W v12 Bk := h12
                  simp only [tellK, Act.put, List.setIfInBounds_toArray, List.set_cons_zero, List.set_cons_succ] at hK ⊢
                  refine tell_do rfl ?_
                  obtain ⟨c0, c1, c2, c3, c4, c5⟩ := cells6 (HP.below (bt_ hD hB)); have q2 : _ = some (Value.slice Az z.length cz) := (HQ.below (bt_ hD hB)).cell 2 _ rfl
                  go_simp; exact hK _ _ h12 (Below.refl _ _)
                case s15 =>
                  intro W hB K hK
                  simp only [tellK, Act.put, List.setIfInBounds_toArray, List.set_cons_zero, List.set_cons_succ] at hK ⊢
                  refine tell_do rfl ?_
                  obtain ⟨c0, c1, c2, c3, c4, c5⟩ := cells6 (HP.below (bt_ hD hB)); have q2 : _ = some (Value.slice Az z.length cz) := (HQ.below (bt_ hD hB)).cell 2 _ rfl
                  go_simp
                  exact hK _ (Below.refl _ _)
                case hQ =>
                  intro W hB v9 h9 v10 h10 v11 h11 v12 h12 v14 h14
                  replace h9 : Rb W v9 (z.drop kc) := h9
                  replace h12 : Obb wK W v12 Bk := h12
                  replace h14 : Obb wK W v14 Bk := h14
                  simp only [tellGo, sayAt, List.getD_cons_zero, List.getD_cons_succ, Act.put, List.setIfInBounds_toArray, List.set_cons_zero, List.set_cons_succ]
                  replace hPr := hPr.below hB
                  have hD9 := bt_ hD hB
                  have hBk0 : Obb wK W v14 Bk := h14
                  clear h9 h10 h11 h12 h14
                  obtain ⟨AB, nb, rfl⟩ := rk_form hBk0.rk
                  have hN1 : 0 < p.N.toNat := by have := h.tl; have := h.wn; omega
                  obtain ⟨adb, ub0, eB, _, _⟩ := kbb_at (rk_C hBk0.rk) 0 (by rw [hlB.out]; exact hN1)
                  subst eB
                  rw [hlB.out] at hBk0 ⊢
                  generalize hNN : p.N.toNat = N at *
                  replace hNN := Lib.hid hNN
                  have hN12 : N ≤ 12 := by omega
                  replace eN := Lib.hid eN
                  obtain ⟨c0, c1, c2, c3, c4, c5⟩ := cells6 (HP.below hD9)
                  go_wp2_with fail
                  go_loopw [23, 24, 159] (fun _ _ i wr => ∃ (j : Nat) (vs' : Nat → Value), j ≤ hs.length ∧ i = .int .i64 j ∧ Prs wb wr g hs.length vs' (fun q => if q < j then bpS p a t z (point t0) Wd Cs (k + 1) (point (hs.getD q 0)) else bpS p a t z (point t0) Wd Cs k (point (hs.getD q 0))) ∧ Below wb.heap.size wb wr ∧ Obb wK wr (.slice (some adb) N nb) Bk) (fun _ _ i _ => hs.length - (intOf i).toNat)
                  case atStart => exact ⟨0, _, by omega, rfl, hPr.congr (fun q _ => by rw [if_neg (Nat.not_lt_zero q)]), hD9, hBk0⟩
                  case round =>
                    clear hPr hD9 hBk0 hB hD c0 c1 c2 c3 c4 c5
                    obtain ⟨j, vs2, hj, rfl, hPr, hD2, hBk⟩ := hrel
                    generalize wr = wr2 at *
                    by_cases hjH : j < hs.length
                    · obtain ⟨ad, e1, d9⟩ := ki_at (ri_C hhs) j hjH
                      injection e1 with e1
                      subst e1
                      replace d9 := pw_cell_below hD2 d9
                      have hji : (j : Int) < (hs.length : Int) := by omega
                      have hmem : hs.getD j 0 ∈ hs := by rw [List.getD_eq_getElem?_getD, List.getElem?_eq_getElem hjH]; exact List.getElem_mem hjH
                      have hin := hgh.out _ hmem
                      have hu0 := hPr.own j hjH
                      have hu0 : Ob wb wr2 (vs2 j) (bpS p a t z (point t0) Wd Cs k (point (hs.getD j 0))) := by simpa using hu0
                      have hK2 := Lib.hid (hstep.out (point (hs.getD j 0)))
                      have hR2 := Lib.hid (hrl2.out (point (hs.getD j 0)))
                      have hrowe : Hid (∀ q, q = j → bpS p a t z (point t0) Wd Cs (k + 1) (point (hs.getD q 0)) = bpS p a t z (point t0) Wd Cs (k + 1) (point (hs.getD j 0))) := Lib.hid (fun q e => by rw [e])
                      obtain ⟨m, hm⟩ : ∃ m : Nat, hs.getD j 0 - 1 = (m : Int) := ⟨(hs.getD j 0 - 1).toNat, by omega⟩
                      have u2 : IntKind.i64.wrap (hs.getD j 0 - 1) = (m : Int) := by rw [hm]; exact wrapI _ (by omega) (by omega)
                      have hmN : m < N := by have := eN.out; omega
                      have hmi : (m : Int) < (N : Int) := by omega
                      have hm1 : (m : Int) + 1 = hs.getD j 0 := by omega
                      obtain ⟨ad2, ub, e2, b0, hd2⟩ := kbb_at (rk_C hBk.rk) m (by rw [hlB.out]; exact hmN)
                      injection e2 with e2
                      subst e2
                      rw [hatB.out m hmN, hm1] at hd2
                      clear hm hm1 hmem hin
                      generalize hs.getD j 0 = i at *
                      obtain ⟨Bd, md, cd, rfl⟩ : ∃ A m c, ub = .slice A m c := (rk_form hd2).elim fun A h => h.elim fun c h => ⟨A, _, c, h⟩
                      have hu := hu0.rk
                      generalize hvj : vs2 j = u at *
                      obtain ⟨Bu, mu, cu, rfl⟩ : ∃ A m c, u = .slice A m c := (rk_form hu).elim fun A h => h.elim fun c h => ⟨A, _, c, h⟩
                      replace hvj := Lib.hid hvj
                      generalize hrow9 : bpS p a t z (point t0) Wd Cs (k + 1) (point i) = row at *
                      generalize hG9 : bpS p a t z (point t0) Wd Cs k (point i) = G at *
                      generalize bsh Wd (point t0) (z.drop kc) S (point i) = D at *
                      replace hrow9 := Lib.hid hrow9
                      replace hG9 := Lib.hid hG9
                      have hcg : Hid (∀ q, q < hs.length → (if q = j then row else if q < j then bpS p a t z (point t0) Wd Cs (k + 1) (point (hs.getD q 0)) else bpS p a t z (point t0) Wd Cs k (point (hs.getD q 0))) = if q < j + 1 then bpS p a t z (point t0) Wd Cs (k + 1) (point (hs.getD q 0)) else bpS p a t z (point t0) Wd Cs k (point (hs.getD q 0))) := Lib.hid (fun q hq => by
                        by_cases e1 : q = j
                        · rw [if_pos e1, if_pos (by omega), hrowe.out q e1]
                        · rw [if_neg e1]
                          by_cases e2 : q < j
                          · rw [if_pos e2, if_pos (by omega)]
                          · rw [if_neg e2, if_neg (by omega)])
                      clear hu0
                      go_wp2_with fail
                      refine wp_region_two 12 [.v (.slice (some ⟨g, 0, none⟩) hs.length cp), .v (.int .i64 (j : Int)), .v (.slice (some ⟨g, 0, none⟩) hs.length cp), .v (.int .i64 (j : Int)), .v (.pointer (some ⟨g, j, none⟩)), .v (.slice Bu mu cu), .v (.slice (some adb) N nb), .v (.int .i64 i), .v (.int .i64 (m : Int)), .v (.pointer (some (adb.add m))), .v (.slice Bd md cd), .p (isBB [G, D]), .p (fun _ _ => True), .v (.pointer (some ⟨g, j, none⟩)), .p (fun _ _ => True)] [([], none), ([], none), ([], none), ([], none), ([(2, some 166), (3, some 167)], none), ([(4, some 168)], none), ([], none), ([], none), ([(7, some 171)], none), ([(6, some 170), (8, some 172)], none), ([(9, some 173)], none), ([(5, some 169), (10, some 174)], none), ([(11, some 175)], none), ([(0, some 164), (1, some 165)], none), ([(12, some 176), (13, some 177)], none)] [(0, some 164), (1, some 165), (2, some 166), (3, some 167), (4, some 168), (5, some 169), (6, some 170), (7, some 171), (8, some 172), (9, some 173), (10, some 174), (11, some 175), (12, some 176), (13, some 177), (14, none)] (fun _ _ => True) (fun v W => ∃ A mm cc, v = .slice A mm cc ∧ Ob wb W v row ∧ Below wr2.heap.size wr2 W) (fun W => (∃ vs'', Prs wb W g hs.length vs'' (fun q => if q < j + 1 then bpS p a t z (point t0) Wd Cs (k + 1) (point (hs.getD q 0)) else bpS p a t z (point t0) Wd Cs k (point (hs.getD q 0)))) ∧ Below wb.heap.size wb W ∧ Obb wK W (.slice (some adb) N nb) Bk) (by kernel_rfl) (by kernel_rfl) (by kernel_rfl) (by kernel_rfl) (by kernel_rfl) (by kernel_rfl) (by exact ⟨trivial, trivial, trivial, trivial, trivial, trivial, trivial, trivial, trivial, trivial, trivial, last_BB _, (fun _ _ _ _ _ => trivial), trivial, (fun _ _ _ _ _ => trivial), trivial⟩) (show 12 < 15 by decide) rfl rfl ⟨.inl ⟨by decide, ?s0⟩, .inr ⟨_, rfl, ?l0⟩, .inl ⟨by decide, ?s1⟩, .inr ⟨_, rfl, ?l1⟩, .inl ⟨by decide, ?s2⟩, .inl (by decide), .inl ⟨by decide, ?s3⟩, .inl (by decide), .inl ⟨by decide, ?s4⟩, .inl (by decide), .inl ⟨by decide, ?s5⟩, .inl (by decide), .inl ⟨by decide, ?s6⟩, .inl (by decide), .inl ⟨by decide, ?s7⟩, .inl (by decide), .inl ⟨by decide, ?s8⟩, .inl (by decide), .inl ⟨by decide, ?s9⟩, .inl (by decide), .inl ⟨by decide, ?s10⟩, .inl (by decide), .inl ⟨by decide, ?s11⟩, .inl (by decide), .inr (.inl ⟨rfl, ?ap⟩), .inl (by decide), .inl ⟨by decide, ?s13⟩, .inr ⟨_, rfl, ?l13⟩, .inr (.inr ⟨rfl, ?sto⟩), .inl (by decide), trivial⟩ ?hQ
                      case s0 =>
                        intro W hB K hK
                        simp only [tellK, Act.put, List.setIfInBounds_toArray, List.set_cons_zero, List.set_cons_succ] at hK ⊢
                        refine tell_do rfl ?_
                        have q1 := (hPr.below hB).cell j hjH; rw [hvj.out] at q1; have q2 := pw_cell_below hB b0
                        go_simp
                        exact hK _ (Below.refl _ _)
                      case s1 =>
                        intro W hB K hK
                        simp only [tellK, Act.put, List.setIfInBounds_toArray, List.set_cons_zero, List.set_cons_succ] at hK ⊢
                        refine tell_do rfl ?_
                        have q1 := (hPr.below hB).cell j hjH; rw [hvj.out] at q1; have q2 := pw_cell_below hB b0
                        go_simp
                        exact hK _ (Below.refl _ _)
                      case s2 =>
                        intro W hB K hK
                        simp only [tellK, Act.put, List.setIfInBounds_toArray, List.set_cons_zero, List.set_cons_succ] at hK ⊢
                        refine tell_do rfl ?_
                        have q1 := (hPr.below hB).cell j hjH; rw [hvj.out] at q1; have q2 := pw_cell_below hB b0
                        go_simp
                        exact hK _ (Below.refl _ _)
                      case s3 =>
                        intro W hB K hK
                        simp only [tellK, Act.put, List.setIfInBounds_toArray, List.set_cons_zero, List.set_cons_succ] at hK ⊢
                        refine tell_do rfl ?_
                        have q1 := (hPr.below hB).cell j hjH; rw [hvj.out] at q1; have q2 := pw_cell_below hB b0
                        go_simp
                        exact hK _ (Below.refl _ _)
                      case s4 =>
                        intro W hB K hK
                        simp only [tellK, Act.put, List.setIfInBounds_toArray, List.set_cons_zero, List.set_cons_succ] at hK ⊢
                        refine tell_do rfl ?_
                        have q1 := (hPr.below hB).cell j hjH; rw [hvj.out] at q1; have q2 := pw_cell_below hB b0
                        go_simp
                        exact hK _ (Below.refl _ _)
                      case s5 =>
                        intro W hB K hK
                        simp only [tellK, Act.put, List.setIfInBounds_toArray, List.set_cons_zero, List.set_cons_succ] at hK ⊢
                        refine tell_do rfl ?_
                        have q1 := (hPr.below hB).cell j hjH; rw [hvj.out] at q1; have q2 := pw_cell_below hB b0
                        go_simp
                        exact hK _ (Below.refl _ _)
                      case s6 =>
                        intro W hB K hK
                        simp only [tellK, Act.put, List.setIfInBounds_toArray, List.set_cons_zero, List.set_cons_succ] at hK ⊢
                        refine tell_do rfl ?_
                        have q1 := (hPr.below hB).cell j hjH; rw [hvj.out] at q1; have q2 := pw_cell_below hB b0
                        go_simp
                        exact hK _ (Below.refl _ _)
                      case s7 =>
                        intro W hB K hK
                        simp only [tellK, Act.put, List.setIfInBounds_toArray, List.set_cons_zero, List.set_cons_succ] at hK ⊢
                        refine tell_do rfl ?_
                        have q1 := (hPr.below hB).cell j hjH; rw [hvj.out] at q1; have q2 := pw_cell_below hB b0
                        go_simp
                        exact hK _ (Below.refl _ _)
                      case s8 =>
                        intro W hB K hK
                        simp only [tellK, Act.put, List.setIfInBounds_toArray, List.set_cons_zero, List.set_cons_succ] at hK ⊢
                        refine tell_do rfl ?_
                        have q1 := (hPr.below hB).cell j hjH; rw [hvj.out] at q1; have q2 := pw_cell_below hB b0
                        go_simp
                        exact hK _ (Below.refl _ _)
                      case s9 =>
                        intro W hB K hK
                        simp only [tellK, Act.put, List.setIfInBounds_toArray, List.set_cons_zero, List.set_cons_succ] at hK ⊢
                        refine tell_do rfl ?_
                        have q1 := (hPr.below hB).cell j hjH; rw [hvj.out] at q1; have q2 := pw_cell_below hB b0
                        go_simp
                        exact hK _ (Below.refl _ _)
                      case s10 =>
                        intro W hB K hK
                        simp only [tellK, Act.put, List.setIfInBounds_toArray, List.set_cons_zero, List.set_cons_succ] at hK ⊢
                        refine tell_do rfl ?_
                        have q1 := (hPr.below hB).cell j hjH; rw [hvj.out] at q1; have q2 := pw_cell_below hB b0
                        go_simp
                        exact hK _ (Below.refl _ _)
                      case s11 =>
                        intro W hB K hK
                        simp only [tellK, Act.put, List.setIfInBounds_toArray, List.set_cons_zero, List.set_cons_succ] at hK ⊢
                        refine tell_do rfl ?_
                        have q1 := (hPr.below hB).cell j hjH; rw [hvj.out] at q1; have q2 := pw_cell_below hB b0
                        go_simp
                        exact hK _ _ (lit_bb2 W _ _ _ _ _ (hu.below hB) (hd2.below hB)) (alloc_b _ _)
                      case s13 =>
                        intro W hB K hK
                        simp only [tellK, Act.put, List.setIfInBounds_toArray, List.set_cons_zero, List.set_cons_succ] at hK ⊢
                        refine tell_do rfl ?_
                        have q1 := (hPr.below hB).cell j hjH; rw [hvj.out] at q1; have q2 := pw_cell_below hB b0
                        go_simp
                        exact hK _ (Below.refl _ _)
                      case l0 =>
                        intro v W hM
                        simp only [tellGo]
                        intro K hK
                        simp only [Act.put, List.setIfInBounds_toArray, List.set_cons_zero, List.set_cons_succ] at hK ⊢
                        refine tell_do rfl ?_
                        skip
                        go_simp
                        exact hK _ _ ⟨rfl, rfl⟩
                      case l1 =>
                        intro v W hM
                        simp only [tellGo]
                        intro K hK
                        simp only [Act.put, List.setIfInBounds_toArray, List.set_cons_zero, List.set_cons_succ] at hK ⊢
                        refine tell_do rfl ?_
                        skip
                        go_simp
                        exact hK _ _ ⟨rfl, rfl⟩
                      case l13 =>
                        intro v W hM
                        simp only [bareL, List.map_cons, List.map_nil, List.set_cons_zero, List.set_cons_succ, tellGo, sayAt, List.getD_cons_zero, List.getD_cons_succ]
                        intro K hK
                        simp only [Act.put, List.setIfInBounds_toArray, List.set_cons_zero, List.set_cons_succ] at hK ⊢
                        refine tell_do rfl ?_
                        skip
                        go_simp
                        exact hK _ _ ⟨rfl, rfl⟩
                      case ap =>
                        intro W hB v11 h11 K hK
                        replace h11 : Rbb W v11 [G, D] := h11
                        simp only [Act.put, List.setIfInBounds_toArray, List.set_cons_zero, List.set_cons_succ] at hK ⊢
                        refine tell_do rfl ?_
                        have q1 := (hPr.below hB).cell j hjH; rw [hvj.out] at q1; have q2 := pw_cell_below hB b0
                        go_simp
                        go_at_call 118
                        refine (zAdd_c _ [G, D] _ h11 (show 2 ≤ 1000 by decide) hR2.out).mono ?_
                        rintro e w7 ⟨vN, rfl, sN, h7⟩
                        rw [hK2.out] at sN
                        obtain ⟨A7, m7, c7, rfl⟩ : ∃ A m c, vN = .slice A m c := (rk_form sN.rk).elim fun A h => h.elim fun c h => ⟨A, _, c, h⟩
                        exact hK _ _ ⟨_, _, _, rfl, sN.lower (bt_ hD2 hB), bt_ hB h7⟩
                      case sto =>
                        intro v W hM
                        simp only [bareL, List.map_cons, List.map_nil, List.set_cons_zero, List.set_cons_succ, tellGo, sayAt, List.getD_cons_zero, List.getD_cons_succ]
                        intro K hK
                        simp only [Act.put, List.setIfInBounds_toArray, List.set_cons_zero, List.set_cons_succ] at hK ⊢
                        refine tell_do rfl ?_
                        obtain ⟨A, mm, cc, rfl, hO, hbm⟩ := hM
                        have z1 := (hPr.below hbm).cell j hjH
                        have z2 := (hPr.below hbm).frozen j
                        go_simp
                        have hRn := (hPr.below hbm).put j hjH hO
                        exact hK undef _ ⟨⟨_, hRn.congr hcg.out⟩, below_set (bt_ hD2 hbm) hPr.base, obb_far (hBk.below hbm) hgK _ _⟩
                      case hQ =>
                        intro v W hP
                        simp only [bareL, List.map_cons, List.map_nil, List.set_cons_zero, List.set_cons_succ, tellGo, sayAt, List.getD_cons_zero, List.getD_cons_succ]
                        intro v11 _ v14 _
                        simp only [Act.put, List.setIfInBounds_toArray, List.set_cons_zero, List.set_cons_succ]
                        obtain ⟨⟨vs3, hP3⟩, hD3, hBk3⟩ := hP
                        go_wp2
                        exact ⟨⟨j + 1, vs3, by omega, by go_num, hP3, hD3, hBk3⟩, by simp [intOf]; try omega⟩
                    · obtain rfl : j = hs.length := by omega
                      have hPn := hPr.congr (ls' := fun q => bpS p a t z (point t0) Wd Cs (k + 1) (point (hs.getD q 0))) (fun q hq => by rw [if_pos hq])
                      have ek1 : (k + 1) * Cs ≤ z.length := by
                        have := hkc.out
                        rw [Nat.add_mul, Nat.one_mul]; omega
                      replace ek1 := Lib.hid ek1
                      go_wp2
                      exact ⟨⟨k + 1, vs2, by omega, by go_num, ek1, hPn, hD2⟩, by simp [intOf]; try omega⟩
              · have tr : decide ((Cs : Int) ≤ (z.length : Int) - (kc : Int)) = false := decide_eq_false (by omega)
                have hRd := hPr.reads cp hcap (by omega)
                rw [hrng.out (fun i => bpS p a t z (point t0) Wd Cs k (point i))] at hRd
                have ham1 := Lib.hid (ham.out k)
                have hfin1 := Lib.hid (hfin.out k hkz0.out)
                generalize (hs.map fun i => bpS p a t z (point t0) Wd Cs k (point i)) = parts at *
                go_wp2_with fail
                refine (bFind_ok bF p h S t0 (by omega) hgt K eK.out hK.out _ _ hs parts _ (hF.below hD) (hhs.below hD) hRd ham1.out).mono ?_
                rintro e w5 ⟨zz, rfl, sZ, h5⟩
                rw [hfin1.out] at sZ
                replace sZ := sZ.rk
                replace hD := bt_ hD h5
                clear h5 hRd
                go_wp2_with fail
                refine (rShare10_c _ (polysOf p a t) t0 _ (hPo.below hD) hPl.out).mono ?_
                rintro e w6 ⟨vM, rfl, sM, h6⟩
                rw [hdd.out] at sM
                replace sM := sM.rk
                replace sZ := sZ.below h6
                replace hD := bt_ hD h6
                go_wp2_with fail
                refine (rSame_c _ _ (F.dshare (polysOf p a t) (point t0)) (F.dshare (polysOf p a t) (point t0)) _ sZ sM).mono ?_
                rintro e w7 ⟨rfl, h7⟩
                rw [decide_eq_true (rfl : F.dshare (polysOf p a t) (point t0) = F.dshare (polysOf p a t) (point t0))]
                have hB := bt_ (bt_ hB hD) h7.below
                go_wp2_with fail
                refine (alive13 _).mono ?_
                rintro e w9 ⟨rfl, h⟩
                have hB := bt_ hB h
                clear h
                go_wp2
                go_ret
                exact ⟨rfl, hB⟩
            · have tk : decide ((k : Int) < 3) = false := decide_eq_false (by omega)
              have hRd := hPr.reads cp hcap (by omega)
              rw [hrng.out (fun i => bpS p a t z (point t0) Wd Cs k (point i))] at hRd
              have ham1 := Lib.hid (ham.out k)
              have hfin1 := Lib.hid (hfin.out k hkz0.out)
              generalize (hs.map fun i => bpS p a t z (point t0) Wd Cs k (point i)) = parts at *
              go_wp2_with fail
              refine (bFind_ok bF p h S t0 (by omega) hgt K eK.out hK.out _ _ hs parts _ (hF.below hD) (hhs.below hD) hRd ham1.out).mono ?_
              rintro e w5 ⟨zz, rfl, sZ, h5⟩
              rw [hfin1.out] at sZ
              replace sZ := sZ.rk
              replace hD := bt_ hD h5
              clear h5 hRd
              go_wp2_with fail
              refine (rShare10_c _ (polysOf p a t) t0 _ (hPo.below hD) hPl.out).mono ?_
              rintro e w6 ⟨vM, rfl, sM, h6⟩
              rw [hdd.out] at sM
              replace sM := sM.rk
              replace sZ := sZ.below h6
              replace hD := bt_ hD h6
              go_wp2_with fail
              refine (rSame_c _ _ (F.dshare (polysOf p a t) (point t0)) (F.dshare (polysOf p a t) (point t0)) _ sZ sM).mono ?_
              rintro e w7 ⟨rfl, h7⟩
              rw [decide_eq_true (rfl : F.dshare (polysOf p a t) (point t0) = F.dshare (polysOf p a t) (point t0))]
              have hB := bt_ (bt_ hB hD) h7.below
              go_wp2_with fail
              refine (alive13 _).mono ?_
              rintro e w9 ⟨rfl, h⟩
              have hB := bt_ hB h
              clear h
              go_wp2
              go_ret
              exact ⟨rfl, hB⟩
set_option maxRecDepth 100000 in
theorem BlindBack_walk (w : World) (N : Int) (hN : -9223372036854775808 ≤ N ∧ N ≤ 9223372036854775807) (T : Int) (hT : -9223372036854775808 ≤ T ∧ T ≤ 9223372036854775807) (L : Int) (hL : -9223372036854775808 ≤ L ∧ L ≤ 9223372036854775807) (W : Int) (hW : -9223372036854775808 ≤ W ∧ W ≤ 9223372036854775807) (S : Int) (hS : -9223372036854775808 ≤ S ∧ S ≤ 9223372036854775807) (R : Int) (hR : -9223372036854775808 ≤ R ∧ R ≤ 9223372036854775807) (va : Value) (a : List F) (ha : Rb w va a) (vt : Value) (t : List F) (ht : Rb w vt t) (vz : Value) (z : List F) (hz : Rb w vz z) (vw : Value) (who : List Int) (hw : Ri w vw who) (hq : ∀ y ∈ who, -9223372036854775808 ≤ y ∧ y ≤ 9223372036854775807) :
   Calls Try.prog 28 #[.agg #[.int .i64 N, .int .i64 T, .int .i64 L, .int .i64 W, .int .i64 S, .int .i64 R], .agg #[va, vt, vz], vw] w fun e w' => e = .returned (.bool true) ∧ Below w.heap.size w w' := by
  by_cases hLt : Lite ⟨N, T, L, W, S, R⟩
  · have hi : Pl.In ⟨N, T, L, W, S, R⟩ := ⟨hN, hT, hL, hW, hS, hR⟩
    by_cases h : (Pl.mk N T L W S R).Ok
    · by_cases hl : a.length ≤ 60
      · obtain ⟨n, hn⟩ : ∃ n : Nat, (Pl.mk N T L W S R).T.toNat * F.nS (Pl.mk N T L W S R).L.toNat a.length = n := ⟨_, rfl⟩
        obtain ⟨K, eK⟩ : ∃ K : Nat, (Pl.mk N T L W S R).T + (Pl.mk N T L W S R).L = (K : Int) := ⟨(T + L).toNat, by have h1 := h.t; have h2 := h.l; show T + L = _; have h1 : 1 ≤ T := h1; have h2 : 1 ≤ L := h2; omega⟩
        obtain ⟨K1, eK1⟩ : ∃ K1 : Nat, K1 = K + 1 := ⟨_, rfl⟩
        by_cases h2 : n ≤ t.length ∧ who.length ≤ 14 ∧ K1 ≤ who.length
        · by_cases hu : (who.map point).Nodup
          · exact blindBack_5 ⟨N, T, L, W, S, R⟩ va vt vz vw a t z who w ha ht hz hw hLt h hl n hn K eK K1 eK1 h2.1 h2.2.1 h2.2.2 hu
          · exact blindBack_4 ⟨N, T, L, W, S, R⟩ va vt vz vw a t z who w ha ht hz hw hLt h hl n hn K eK K1 eK1 h2.1 h2.2.1 h2.2.2 hu
        · exact blindBack_3 ⟨N, T, L, W, S, R⟩ va vt vz vw a t z who w ha ht hz hw hLt h hl n hn K eK K1 eK1 h2
      · exact blindBack_2 ⟨N, T, L, W, S, R⟩ va vt vz vw a t z who w ha ht hz hw hLt h hl
    · exact blindBack_1 ⟨N, T, L, W, S, R⟩ va vt vz vw a t z who w ha ht hz hw hi hLt h
  · exact blindBack_0 ⟨N, T, L, W, S, R⟩ va vt vz vw a t z who w ha ht hz hw hLt
end Go.Proofs.Ytijeabhfddaoaaa
