/- The walk of the law RebuildBack. -/
import Derived.Test.YtijeabhfddaoaaaL11
import Derived.Test.YtijeabhfddaoaaaBk
import Derived.Test.YtijeabhfddaoaaaKv
namespace Go.Proofs.Ytijeabhfddaoaaa
set_option linter.unusedVariables false
open Go.RowKit Go.Proofs.YtijeabhfddaoaaaW.PrintWords Go.Proofs.Sh

set_option maxRecDepth 100000 in
set_option maxHeartbeats 3200000 in
theorem rebuildBack_0 (p : Pl) (va vt vw : Value) (a t : List F) (who : List Int) (w : World) (ha : Rb w va a) (ht : Rb w vt t) (hw : Ri w vw who) (h : ¬ Lite p) : Calls Try.prog 36 #[planV p, .agg #[va, vt], vw] w fun e w' => e = .returned (.bool true) ∧ Below w.heap.size w w' := by
  have hL := Lib.hid (decide_eq_false h)
  clear h
  obtain ⟨Aa, ca, rfl⟩ := rk_form ha
  obtain ⟨At, ct, rfl⟩ := rk_form ht
  obtain ⟨Aw, cw, rfl⟩ := rk_form hw
  have HP := (Blk.new w (planC p) 33).alloc (.cells #[.slice Aa a.length ca, .slice At t.length ct] 103)
  have HQ := Blk.new' (w.alloc (.cells (planC p) 33)) #[.slice Aa a.length ca, .slice At t.length ct] 103 (World.size_alloc _ _)
  have hB := below_alloc (below_alloc (Below.refl w.heap.size w) (.cells (planC p) 33)) (.cells #[.slice Aa a.length ca, .slice At t.length ct] 103)
  replace ha := ha.below hB
  replace ht := ht.below hB
  replace hw := hw.below hB
  go_enter Try.func36, Try.ntmps36
  go_wp2_with fail
  generalize (w.alloc (.cells (planC p) 33)).alloc (.cells #[.slice Aa a.length ca, .slice At t.length ct] 103) = w1 at *
  have q0 := HQ.cell 0 _ rfl
  have q1 := HQ.cell 1 _ rfl
  go_quiet (fail)
  replace HP := HP.below (pw_below_drewN (Below.refl _ _) nq)
  replace ha := ha.drewN nq
  replace ht := ht.drewN nq
  replace hw := hw.drewN nq
  replace hB := pw_below_drewN hB nq
  clear q0 q1 HQ
  generalize w1.drewN nq = w1' at *
  obtain ⟨c0, c1, c2, c3, c4, c5⟩ := cells6 HP
  go_wp2_with fail
  refine (light_c p _).mono ?_
  rintro e w2 ⟨rfl, h2⟩
  rw [hL.out]
  replace HP := HP.below h2
  replace hB := bt_ hB h2
  replace ha := ha.below h2
  replace ht := ht.below h2
  replace hw := hw.below h2
  clear c0 c1 c2 c3 c4 c5
  obtain ⟨c0, c1, c2, c3, c4, c5⟩ := cells6 HP
  clear h2
  go_wp2_with fail
  refine (alive11 _).mono ?_
  rintro e w9 ⟨rfl, h⟩
  have hB := bt_ hB h
  clear h
  go_wp2
  go_ret
  exact ⟨rfl, hB⟩
set_option maxRecDepth 100000 in
set_option maxHeartbeats 3200000 in
theorem rebuildBack_1 (p : Pl) (va vt vw : Value) (a t : List F) (who : List Int) (w : World) (ha : Rb w va a) (ht : Rb w vt t) (hw : Ri w vw who) (hi : p.In) (hL0 : Lite p) (h : ¬ p.Ok) : Calls Try.prog 36 #[planV p, .agg #[va, vt], vw] w fun e w' => e = .returned (.bool true) ∧ Below w.heap.size w w' := by
  have hL := Lib.hid (decide_eq_true hL0)
  obtain ⟨Aa, ca, rfl⟩ := rk_form ha
  obtain ⟨At, ct, rfl⟩ := rk_form ht
  obtain ⟨Aw, cw, rfl⟩ := rk_form hw
  have HP := (Blk.new w (planC p) 33).alloc (.cells #[.slice Aa a.length ca, .slice At t.length ct] 103)
  have HQ := Blk.new' (w.alloc (.cells (planC p) 33)) #[.slice Aa a.length ca, .slice At t.length ct] 103 (World.size_alloc _ _)
  have hB := below_alloc (below_alloc (Below.refl w.heap.size w) (.cells (planC p) 33)) (.cells #[.slice Aa a.length ca, .slice At t.length ct] 103)
  replace ha := ha.below hB
  replace ht := ht.below hB
  replace hw := hw.below hB
  go_enter Try.func36, Try.ntmps36
  go_wp2_with fail
  generalize (w.alloc (.cells (planC p) 33)).alloc (.cells #[.slice Aa a.length ca, .slice At t.length ct] 103) = w1 at *
  have q0 := HQ.cell 0 _ rfl
  have q1 := HQ.cell 1 _ rfl
  go_quiet (fail)
  replace HP := HP.below (pw_below_drewN (Below.refl _ _) nq)
  replace ha := ha.drewN nq
  replace ht := ht.drewN nq
  replace hw := hw.drewN nq
  replace hB := pw_below_drewN hB nq
  clear q0 q1 HQ
  generalize w1.drewN nq = w1' at *
  obtain ⟨c0, c1, c2, c3, c4, c5⟩ := cells6 HP
  go_wp2_with fail
  refine (light_c p _).mono ?_
  rintro e w2 ⟨rfl, h2⟩
  rw [hL.out]
  replace HP := HP.below h2
  replace hB := bt_ hB h2
  replace ha := ha.below h2
  replace ht := ht.below h2
  replace hw := hw.below h2
  clear c0 c1 c2 c3 c4 c5
  obtain ⟨c0, c1, c2, c3, c4, c5⟩ := cells6 HP
  clear h2
  go_wp2_with fail
  refine (rRight_no p hi h _).mono ?_
  rintro e w3 ⟨rfl, h3⟩
  replace hB := bt_ hB h3
  go_wp2_with fail
  refine (alive11 _).mono ?_
  rintro e w9 ⟨rfl, h⟩
  have hB := bt_ hB h
  clear h
  go_wp2
  go_ret
  exact ⟨rfl, hB⟩
set_option maxRecDepth 100000 in
set_option maxHeartbeats 3200000 in
theorem rebuildBack_2 (p : Pl) (va vt vw : Value) (a t : List F) (who : List Int) (w : World) (ha : Rb w va a) (ht : Rb w vt t) (hw : Ri w vw who) (hL0 : Lite p) (h : p.Ok) (hx : ¬ a.length ≤ 240) : Calls Try.prog 36 #[planV p, .agg #[va, vt], vw] w fun e w' => e = .returned (.bool true) ∧ Below w.heap.size w w' := by
  have hL := Lib.hid (decide_eq_true hL0)
  have t3 : (240 : Int) < (a.length : Int) := by omega
  obtain ⟨Aa, ca, rfl⟩ := rk_form ha
  obtain ⟨At, ct, rfl⟩ := rk_form ht
  obtain ⟨Aw, cw, rfl⟩ := rk_form hw
  have HP := (Blk.new w (planC p) 33).alloc (.cells #[.slice Aa a.length ca, .slice At t.length ct] 103)
  have HQ := Blk.new' (w.alloc (.cells (planC p) 33)) #[.slice Aa a.length ca, .slice At t.length ct] 103 (World.size_alloc _ _)
  have hB := below_alloc (below_alloc (Below.refl w.heap.size w) (.cells (planC p) 33)) (.cells #[.slice Aa a.length ca, .slice At t.length ct] 103)
  replace ha := ha.below hB
  replace ht := ht.below hB
  replace hw := hw.below hB
  go_enter Try.func36, Try.ntmps36
  go_wp2_with fail
  generalize (w.alloc (.cells (planC p) 33)).alloc (.cells #[.slice Aa a.length ca, .slice At t.length ct] 103) = w1 at *
  have q0 := HQ.cell 0 _ rfl
  have q1 := HQ.cell 1 _ rfl
  go_quiet (fail)
  replace HP := HP.below (pw_below_drewN (Below.refl _ _) nq)
  replace ha := ha.drewN nq
  replace ht := ht.drewN nq
  replace hw := hw.drewN nq
  replace hB := pw_below_drewN hB nq
  clear q0 q1 HQ
  generalize w1.drewN nq = w1' at *
  obtain ⟨c0, c1, c2, c3, c4, c5⟩ := cells6 HP
  go_wp2_with fail
  refine (light_c p _).mono ?_
  rintro e w2 ⟨rfl, h2⟩
  rw [hL.out]
  replace HP := HP.below h2
  replace hB := bt_ hB h2
  replace ha := ha.below h2
  replace ht := ht.below h2
  replace hw := hw.below h2
  clear c0 c1 c2 c3 c4 c5
  obtain ⟨c0, c1, c2, c3, c4, c5⟩ := cells6 HP
  clear h2
  go_wp2_with fail
  refine (rRight_yes p h _).mono ?_
  rintro e w3 ⟨rfl, h3⟩
  replace HP := HP.below h3
  replace hB := bt_ hB h3
  replace ha := ha.below h3
  replace ht := ht.below h3
  replace hw := hw.below h3
  clear c0 c1 c2 c3 c4 c5
  obtain ⟨c0, c1, c2, c3, c4, c5⟩ := cells6 HP
  clear h3
  go_wp2_with fail
  refine (alive11 _).mono ?_
  rintro e w9 ⟨rfl, h⟩
  have hB := bt_ hB h
  clear h
  go_wp2
  go_ret
  exact ⟨rfl, hB⟩
theorem cost_nat {p : Pl} (h : p.Ok) {s n : Nat} (hn : p.T.toNat * s = n) : p.T * (s : Int) = (n : Int) := by
  have e0 : (p.T.toNat : Int) = p.T := by have := h.t; omega
  rw [← hn, Int.natCast_mul, e0]
set_option maxRecDepth 100000 in
set_option maxHeartbeats 3200000 in
theorem rebuildBack_3 (p : Pl) (va vt vw : Value) (a t : List F) (who : List Int) (w : World) (ha : Rb w va a) (ht : Rb w vt t) (hw : Ri w vw who) (hL0 : Lite p) (h : p.Ok) (hl : a.length ≤ 240) (n : Nat) (hn : p.T.toNat * F.nS p.L.toNat a.length = n) (K : Nat) (eK : p.T + p.L = K) (hx : ¬ (n ≤ t.length ∧ who.length ≤ 14 ∧ K ≤ who.length)) : Calls Try.prog 36 #[planV p, .agg #[va, vt], vw] w fun e w' => e = .returned (.bool true) ∧ Below w.heap.size w w' := by
  have hL := Lib.hid (decide_eq_true hL0)
  have t3 : decide ((240 : Int) < (a.length : Int)) = false := decide_eq_false (by omega)
  have hcost := Lib.hid (cost_nat h hn)
  have u1 : IntKind.i64.wrap (p.T + p.L) = (K : Int) := by rw [eK]; exact wrapI _ (by omega) (by have := hL0.2.1; have := hL0.2.2; omega)
  by_cases h1 : n ≤ t.length
  · have t5 : ¬ t.length < n := by omega
    by_cases h2 : who.length ≤ 14
    · have t6 : decide ((14 : Int) < (who.length : Int)) = false := decide_eq_false (by omega)
      have t7 : who.length < K := by
        have : ¬ K ≤ who.length := fun e => hx ⟨h1, h2, e⟩
        omega
      clear hx h1 h2 hn eK
      obtain ⟨Aa, ca, rfl⟩ := rk_form ha
      obtain ⟨At, ct, rfl⟩ := rk_form ht
      obtain ⟨Aw, cw, rfl⟩ := rk_form hw
      have HP := (Blk.new w (planC p) 33).alloc (.cells #[.slice Aa a.length ca, .slice At t.length ct] 103)
      have HQ := Blk.new' (w.alloc (.cells (planC p) 33)) #[.slice Aa a.length ca, .slice At t.length ct] 103 (World.size_alloc _ _)
      have hB := below_alloc (below_alloc (Below.refl w.heap.size w) (.cells (planC p) 33)) (.cells #[.slice Aa a.length ca, .slice At t.length ct] 103)
      replace ha := ha.below hB
      replace ht := ht.below hB
      replace hw := hw.below hB
      go_enter Try.func36, Try.ntmps36
      go_wp2_with fail
      generalize (w.alloc (.cells (planC p) 33)).alloc (.cells #[.slice Aa a.length ca, .slice At t.length ct] 103) = w1 at *
      have q0 := HQ.cell 0 _ rfl
      have q1 := HQ.cell 1 _ rfl
      go_quiet (fail)
      replace HP := HP.below (pw_below_drewN (Below.refl _ _) nq)
      replace ha := ha.drewN nq
      replace ht := ht.drewN nq
      replace hw := hw.drewN nq
      replace hB := pw_below_drewN hB nq
      clear q0 q1 HQ
      generalize w1.drewN nq = w1' at *
      obtain ⟨c0, c1, c2, c3, c4, c5⟩ := cells6 HP
      go_wp2_with fail
      refine (light_c p _).mono ?_
      rintro e w2 ⟨rfl, h2⟩
      rw [hL.out]
      replace HP := HP.below h2
      replace hB := bt_ hB h2
      replace ha := ha.below h2
      replace ht := ht.below h2
      replace hw := hw.below h2
      clear c0 c1 c2 c3 c4 c5
      obtain ⟨c0, c1, c2, c3, c4, c5⟩ := cells6 HP
      clear h2
      go_wp2_with fail
      refine (rRight_yes p h _).mono ?_
      rintro e w3 ⟨rfl, h3⟩
      replace HP := HP.below h3
      replace hB := bt_ hB h3
      replace ha := ha.below h3
      replace ht := ht.below h3
      replace hw := hw.below h3
      clear c0 c1 c2 c3 c4 c5
      obtain ⟨c0, c1, c2, c3, c4, c5⟩ := cells6 HP
      clear h3
      go_wp2_with fail
      refine (rCost_c p h a.length hl _).mono ?_
      rintro e w4 ⟨rfl, h4⟩
      rw [hcost.out]
      replace HP := HP.below h4
      replace hB := bt_ hB h4
      replace ha := ha.below h4
      replace ht := ht.below h4
      replace hw := hw.below h4
      clear c0 c1 c2 c3 c4 c5
      obtain ⟨c0, c1, c2, c3, c4, c5⟩ := cells6 HP
      clear h4
      go_wp2_with fail
      refine (alive11 _).mono ?_
      rintro e w9 ⟨rfl, h⟩
      have hB := bt_ hB h
      clear h
      go_wp2
      go_ret
      exact ⟨rfl, hB⟩
    · have t6 : (14 : Int) < (who.length : Int) := by omega
      clear hx h1 h2 hn eK
      obtain ⟨Aa, ca, rfl⟩ := rk_form ha
      obtain ⟨At, ct, rfl⟩ := rk_form ht
      obtain ⟨Aw, cw, rfl⟩ := rk_form hw
      have HP := (Blk.new w (planC p) 33).alloc (.cells #[.slice Aa a.length ca, .slice At t.length ct] 103)
      have HQ := Blk.new' (w.alloc (.cells (planC p) 33)) #[.slice Aa a.length ca, .slice At t.length ct] 103 (World.size_alloc _ _)
      have hB := below_alloc (below_alloc (Below.refl w.heap.size w) (.cells (planC p) 33)) (.cells #[.slice Aa a.length ca, .slice At t.length ct] 103)
      replace ha := ha.below hB
      replace ht := ht.below hB
      replace hw := hw.below hB
      go_enter Try.func36, Try.ntmps36
      go_wp2_with fail
      generalize (w.alloc (.cells (planC p) 33)).alloc (.cells #[.slice Aa a.length ca, .slice At t.length ct] 103) = w1 at *
      have q0 := HQ.cell 0 _ rfl
      have q1 := HQ.cell 1 _ rfl
      go_quiet (fail)
      replace HP := HP.below (pw_below_drewN (Below.refl _ _) nq)
      replace ha := ha.drewN nq
      replace ht := ht.drewN nq
      replace hw := hw.drewN nq
      replace hB := pw_below_drewN hB nq
      clear q0 q1 HQ
      generalize w1.drewN nq = w1' at *
      obtain ⟨c0, c1, c2, c3, c4, c5⟩ := cells6 HP
      go_wp2_with fail
      refine (light_c p _).mono ?_
      rintro e w2 ⟨rfl, h2⟩
      rw [hL.out]
      replace HP := HP.below h2
      replace hB := bt_ hB h2
      replace ha := ha.below h2
      replace ht := ht.below h2
      replace hw := hw.below h2
      clear c0 c1 c2 c3 c4 c5
      obtain ⟨c0, c1, c2, c3, c4, c5⟩ := cells6 HP
      clear h2
      go_wp2_with fail
      refine (rRight_yes p h _).mono ?_
      rintro e w3 ⟨rfl, h3⟩
      replace HP := HP.below h3
      replace hB := bt_ hB h3
      replace ha := ha.below h3
      replace ht := ht.below h3
      replace hw := hw.below h3
      clear c0 c1 c2 c3 c4 c5
      obtain ⟨c0, c1, c2, c3, c4, c5⟩ := cells6 HP
      clear h3
      go_wp2_with fail
      refine (rCost_c p h a.length hl _).mono ?_
      rintro e w4 ⟨rfl, h4⟩
      rw [hcost.out]
      replace HP := HP.below h4
      replace hB := bt_ hB h4
      replace ha := ha.below h4
      replace ht := ht.below h4
      replace hw := hw.below h4
      clear c0 c1 c2 c3 c4 c5
      obtain ⟨c0, c1, c2, c3, c4, c5⟩ := cells6 HP
      clear h4
      go_wp2_with fail
      refine (alive11 _).mono ?_
      rintro e w9 ⟨rfl, h⟩
      have hB := bt_ hB h
      clear h
      go_wp2
      go_ret
      exact ⟨rfl, hB⟩
  · have t5 : t.length < n := by omega
    clear hx h1 hn eK
    obtain ⟨Aa, ca, rfl⟩ := rk_form ha
    obtain ⟨At, ct, rfl⟩ := rk_form ht
    obtain ⟨Aw, cw, rfl⟩ := rk_form hw
    have HP := (Blk.new w (planC p) 33).alloc (.cells #[.slice Aa a.length ca, .slice At t.length ct] 103)
    have HQ := Blk.new' (w.alloc (.cells (planC p) 33)) #[.slice Aa a.length ca, .slice At t.length ct] 103 (World.size_alloc _ _)
    have hB := below_alloc (below_alloc (Below.refl w.heap.size w) (.cells (planC p) 33)) (.cells #[.slice Aa a.length ca, .slice At t.length ct] 103)
    replace ha := ha.below hB
    replace ht := ht.below hB
    replace hw := hw.below hB
    go_enter Try.func36, Try.ntmps36
    go_wp2_with fail
    generalize (w.alloc (.cells (planC p) 33)).alloc (.cells #[.slice Aa a.length ca, .slice At t.length ct] 103) = w1 at *
    have q0 := HQ.cell 0 _ rfl
    have q1 := HQ.cell 1 _ rfl
    go_quiet (fail)
    replace HP := HP.below (pw_below_drewN (Below.refl _ _) nq)
    replace ha := ha.drewN nq
    replace ht := ht.drewN nq
    replace hw := hw.drewN nq
    replace hB := pw_below_drewN hB nq
    clear q0 q1 HQ
    generalize w1.drewN nq = w1' at *
    obtain ⟨c0, c1, c2, c3, c4, c5⟩ := cells6 HP
    go_wp2_with fail
    refine (light_c p _).mono ?_
    rintro e w2 ⟨rfl, h2⟩
    rw [hL.out]
    replace HP := HP.below h2
    replace hB := bt_ hB h2
    replace ha := ha.below h2
    replace ht := ht.below h2
    replace hw := hw.below h2
    clear c0 c1 c2 c3 c4 c5
    obtain ⟨c0, c1, c2, c3, c4, c5⟩ := cells6 HP
    clear h2
    go_wp2_with fail
    refine (rRight_yes p h _).mono ?_
    rintro e w3 ⟨rfl, h3⟩
    replace HP := HP.below h3
    replace hB := bt_ hB h3
    replace ha := ha.below h3
    replace ht := ht.below h3
    replace hw := hw.below h3
    clear c0 c1 c2 c3 c4 c5
    obtain ⟨c0, c1, c2, c3, c4, c5⟩ := cells6 HP
    clear h3
    go_wp2_with fail
    refine (rCost_c p h a.length hl _).mono ?_
    rintro e w4 ⟨rfl, h4⟩
    rw [hcost.out]
    replace HP := HP.below h4
    replace hB := bt_ hB h4
    replace ha := ha.below h4
    replace ht := ht.below h4
    replace hw := hw.below h4
    clear c0 c1 c2 c3 c4 c5
    obtain ⟨c0, c1, c2, c3, c4, c5⟩ := cells6 HP
    clear h4
    go_wp2_with fail
    refine (alive11 _).mono ?_
    rintro e w9 ⟨rfl, h⟩
    have hB := bt_ hB h
    clear h
    go_wp2
    go_ret
    exact ⟨rfl, hB⟩
set_option maxRecDepth 100000 in
set_option maxHeartbeats 3200000 in
theorem rebuildBack_4 (p : Pl) (va vt vw : Value) (a t : List F) (who : List Int) (w : World) (ha : Rb w va a) (ht : Rb w vt t) (hw : Ri w vw who) (hL0 : Lite p) (h : p.Ok) (hl : a.length ≤ 240) (n : Nat) (hn : p.T.toNat * F.nS p.L.toNat a.length = n) (K : Nat) (eK : p.T + p.L = K) (h1 : n ≤ t.length) (h2 : who.length ≤ 14) (h3 : K ≤ who.length) (hu : ¬ (who.map point).Nodup) : Calls Try.prog 36 #[planV p, .agg #[va, vt], vw] w fun e w' => e = .returned (.bool true) ∧ Below w.heap.size w w' := by
  have hL := Lib.hid (decide_eq_true hL0)
  have t3 : decide ((240 : Int) < (a.length : Int)) = false := decide_eq_false (by omega)
  have hcost := Lib.hid (cost_nat h hn)
  have u1 : IntKind.i64.wrap (p.T + p.L) = (K : Int) := by rw [eK]; exact wrapI _ (by omega) (by have := hL0.2.1; have := hL0.2.2; omega)
  have t5 : ¬ t.length < n := by omega
  have t6 : decide ((14 : Int) < (who.length : Int)) = false := decide_eq_false (by omega)
  have t7 : ¬ who.length < K := by omega
  have hud := Lib.hid (decide_eq_false hu)
  clear hn eK
  obtain ⟨Aa, ca, rfl⟩ := rk_form ha
  obtain ⟨At, ct, rfl⟩ := rk_form ht
  obtain ⟨Aw, cw, rfl⟩ := rk_form hw
  have HP := (Blk.new w (planC p) 33).alloc (.cells #[.slice Aa a.length ca, .slice At t.length ct] 103)
  have HQ := Blk.new' (w.alloc (.cells (planC p) 33)) #[.slice Aa a.length ca, .slice At t.length ct] 103 (World.size_alloc _ _)
  have hB := below_alloc (below_alloc (Below.refl w.heap.size w) (.cells (planC p) 33)) (.cells #[.slice Aa a.length ca, .slice At t.length ct] 103)
  replace ha := ha.below hB
  replace ht := ht.below hB
  replace hw := hw.below hB
  go_enter Try.func36, Try.ntmps36
  go_wp2_with fail
  generalize (w.alloc (.cells (planC p) 33)).alloc (.cells #[.slice Aa a.length ca, .slice At t.length ct] 103) = w1 at *
  have q0 := HQ.cell 0 _ rfl
  have q1 := HQ.cell 1 _ rfl
  go_quiet (fail)
  replace HP := HP.below (pw_below_drewN (Below.refl _ _) nq)
  replace ha := ha.drewN nq
  replace ht := ht.drewN nq
  replace hw := hw.drewN nq
  replace hB := pw_below_drewN hB nq
  clear q0 q1 HQ
  generalize w1.drewN nq = w1' at *
  obtain ⟨c0, c1, c2, c3, c4, c5⟩ := cells6 HP
  go_wp2_with fail
  refine (light_c p _).mono ?_
  rintro e w2 ⟨rfl, h2⟩
  rw [hL.out]
  replace HP := HP.below h2
  replace hB := bt_ hB h2
  replace ha := ha.below h2
  replace ht := ht.below h2
  replace hw := hw.below h2
  clear c0 c1 c2 c3 c4 c5
  obtain ⟨c0, c1, c2, c3, c4, c5⟩ := cells6 HP
  clear h2
  go_wp2_with fail
  refine (rRight_yes p h _).mono ?_
  rintro e w3 ⟨rfl, h3⟩
  replace HP := HP.below h3
  replace hB := bt_ hB h3
  replace ha := ha.below h3
  replace ht := ht.below h3
  replace hw := hw.below h3
  clear c0 c1 c2 c3 c4 c5
  obtain ⟨c0, c1, c2, c3, c4, c5⟩ := cells6 HP
  clear h3
  go_wp2_with fail
  refine (rCost_c p h a.length hl _).mono ?_
  rintro e w4 ⟨rfl, h4⟩
  rw [hcost.out]
  replace HP := HP.below h4
  replace hB := bt_ hB h4
  replace ha := ha.below h4
  replace ht := ht.below h4
  replace hw := hw.below h4
  clear c0 c1 c2 c3 c4 c5
  obtain ⟨c0, c1, c2, c3, c4, c5⟩ := cells6 HP
  clear h4
  go_wp2_with fail
  refine (rPoints_c _ who _ hw (by omega)).mono ?_
  rintro e w5 ⟨vP, rfl, oP, h5⟩
  replace HP := HP.below h5
  replace hB := bt_ hB h5
  replace ha := ha.below h5
  replace ht := ht.below h5
  replace hw := hw.below h5
  clear c0 c1 c2 c3 c4 c5
  obtain ⟨c0, c1, c2, c3, c4, c5⟩ := cells6 HP
  clear h5
  go_wp2_with fail
  refine (rUnlike_c _ _ _ oP.rk).mono ?_
  rintro e w6 ⟨rfl, h6⟩
  rw [hud.out]
  replace h6 := h6.below
  replace HP := HP.below h6
  replace hB := bt_ hB h6
  replace ha := ha.below h6
  replace ht := ht.below h6
  replace hw := hw.below h6
  clear c0 c1 c2 c3 c4 c5
  obtain ⟨c0, c1, c2, c3, c4, c5⟩ := cells6 HP
  clear h6 oP
  go_wp2_with fail
  refine (alive11 _).mono ?_
  rintro e w9 ⟨rfl, h⟩
  have hB := bt_ hB h
  clear h
  go_wp2
  go_ret
  exact ⟨rfl, hB⟩
set_option maxRecDepth 100000 in
set_option maxHeartbeats 6400000 in
theorem rebuildBack_5 (p : Pl) (va vt vw : Value) (a t : List F) (who : List Int) (w : World) (ha : Rb w va a) (ht : Rb w vt t) (hw : Ri w vw who) (hL0 : Lite p) (h : p.Ok) (hl : a.length ≤ 240) (n : Nat) (hn : p.T.toNat * F.nS p.L.toNat a.length = n) (K : Nat) (eK : p.T + p.L = K) (h1 : n ≤ t.length) (h2 : who.length ≤ 14) (h3 : K ≤ who.length) (hu : (who.map point).Nodup) : Calls Try.prog 36 #[planV p, .agg #[va, vt], vw] w fun e w' => e = .returned (.bool true) ∧ Below w.heap.size w w' := by
  have hL := Lib.hid (decide_eq_true hL0)
  have t3 : decide ((240 : Int) < (a.length : Int)) = false := decide_eq_false (by omega)
  have hcost := Lib.hid (cost_nat h hn)
  have u1 : IntKind.i64.wrap (p.T + p.L) = (K : Int) := by rw [eK]; exact wrapI _ (by omega) (by have := hL0.2.1; have := hL0.2.2; omega)
  have t5 : ¬ t.length < n := by omega
  have t6 : decide ((14 : Int) < (who.length : Int)) = false := decide_eq_false (by omega)
  have t7 : ¬ who.length < K := by omega
  have hud := Lib.hid (decide_eq_true hu)
  have hK : Hid (K < 255) := Lib.hid (by have := hL0.2.1; have := hL0.2.2; omega)
  have hla : Hid (p.T * (F.nS p.L.toNat a.length : Int) ≤ (t.length : Int)) := Lib.hid (by rw [hcost.out]; omega)
  have eN : (p.N.toNat : Int) = p.N := by have := h.t; have := h.l; have := h.tl; have := h.wn; omega
  have tN : ((p.N.toNat : Int) != p.N) = false := by rw [eN]; simp
  have hN9 := hL0.1
  have hsl : Hid ((polysOf p a t).length = F.nS p.L.toNat a.length) := Lib.hid (polys_len p a t)
  have hback : Hid ((∀ i ∈ who, 1 ≤ i ∧ i ≤ p.N) → chE p a.length who (who.map fun i => F.dshare (polysOf p a t) (point i)) = 0 ∧ F.joinOf p.L.toNat (rowsOf ((who.take K).map point) (secretsAt p) ((who.map fun i => F.dshare (polysOf p a t) (point i)).take K) (F.nS p.L.toNat a.length)) a.length = a ∧ agr ((who.take K).map point) (who.map point) K (who.map fun i => F.dshare (polysOf p a t) (point i)) (F.nS p.L.toNat a.length)) := Lib.hid (fun hg =>
    back_all p h K eK hK.out a hl who hg hu h3 (fun j => (polysOf p a t).getD j []) (fun j hj => polys_deg p h K eK a t (by rw [hn]; exact h1) j hj) (fun j hj k hk => polys_sec p h a t j hj k hk) _ (by rw [List.length_map])
      (fun r hr => by obtain ⟨i, _, rfl⟩ := List.mem_map.1 hr; rw [F.dshare_len, polys_len])
      (fun k hk j hj => by rw [map_getD who _ 0 [] k hk, F.dshare_at _ _ _ (by rw [polys_len]; exact hj)]))
  replace hn := Lib.hid hn
  replace eK := Lib.hid eK
  replace hu := Lib.hid hu
  replace h1 := Lib.hid h1
  replace h3 := Lib.hid h3
  obtain ⟨Aa, ca, rfl⟩ := rk_form ha
  obtain ⟨At, ct, rfl⟩ := rk_form ht
  obtain ⟨Aw, cw, rfl⟩ := rk_form hw
  have HP := (Blk.new w (planC p) 33).alloc (.cells #[.slice Aa a.length ca, .slice At t.length ct] 103)
  have HQ := Blk.new' (w.alloc (.cells (planC p) 33)) #[.slice Aa a.length ca, .slice At t.length ct] 103 (World.size_alloc _ _)
  have hB := below_alloc (below_alloc (Below.refl w.heap.size w) (.cells (planC p) 33)) (.cells #[.slice Aa a.length ca, .slice At t.length ct] 103)
  replace ha := ha.below hB
  replace ht := ht.below hB
  replace hw := hw.below hB
  go_enter Try.func36, Try.ntmps36
  go_wp2_with fail
  generalize (w.alloc (.cells (planC p) 33)).alloc (.cells #[.slice Aa a.length ca, .slice At t.length ct] 103) = w1 at *
  have q0 := HQ.cell 0 _ rfl
  have q1 := HQ.cell 1 _ rfl
  go_quiet (fail)
  replace HP := HP.below (pw_below_drewN (Below.refl _ _) nq)
  replace ha := ha.drewN nq
  replace ht := ht.drewN nq
  replace hw := hw.drewN nq
  replace hB := pw_below_drewN hB nq
  clear q0 q1 HQ
  generalize w1.drewN nq = w1' at *
  obtain ⟨c0, c1, c2, c3, c4, c5⟩ := cells6 HP
  go_wp2_with fail
  refine (light_c p _).mono ?_
  rintro e w2 ⟨rfl, h2⟩
  rw [hL.out]
  replace HP := HP.below h2
  replace hB := bt_ hB h2
  replace ha := ha.below h2
  replace ht := ht.below h2
  replace hw := hw.below h2
  clear c0 c1 c2 c3 c4 c5
  obtain ⟨c0, c1, c2, c3, c4, c5⟩ := cells6 HP
  clear h2
  go_wp2_with fail
  refine (rRight_yes p h _).mono ?_
  rintro e w3 ⟨rfl, h3⟩
  replace HP := HP.below h3
  replace hB := bt_ hB h3
  replace ha := ha.below h3
  replace ht := ht.below h3
  replace hw := hw.below h3
  clear c0 c1 c2 c3 c4 c5
  obtain ⟨c0, c1, c2, c3, c4, c5⟩ := cells6 HP
  clear h3
  go_wp2_with fail
  refine (rCost_c p h a.length hl _).mono ?_
  rintro e w4 ⟨rfl, h4⟩
  rw [hcost.out]
  replace HP := HP.below h4
  replace hB := bt_ hB h4
  replace ha := ha.below h4
  replace ht := ht.below h4
  replace hw := hw.below h4
  clear c0 c1 c2 c3 c4 c5
  obtain ⟨c0, c1, c2, c3, c4, c5⟩ := cells6 HP
  clear h4
  go_wp2_with fail
  refine (rPoints_c _ who _ hw (by omega)).mono ?_
  rintro e w5 ⟨vP, rfl, oP, h5⟩
  replace HP := HP.below h5
  replace hB := bt_ hB h5
  replace ha := ha.below h5
  replace ht := ht.below h5
  replace hw := hw.below h5
  clear c0 c1 c2 c3 c4 c5
  obtain ⟨c0, c1, c2, c3, c4, c5⟩ := cells6 HP
  clear h5
  go_wp2_with fail
  refine (rUnlike_c _ _ _ oP.rk).mono ?_
  rintro e w6 ⟨rfl, h6⟩
  rw [hud.out]
  replace h6 := h6.below
  replace HP := HP.below h6
  replace hB := bt_ hB h6
  replace ha := ha.below h6
  replace ht := ht.below h6
  replace hw := hw.below h6
  clear c0 c1 c2 c3 c4 c5
  obtain ⟨c0, c1, c2, c3, c4, c5⟩ := cells6 HP
  clear h6 oP
  go_wp2_with fail
  refine (new_x _).mono ?_
  rintro e w3 ⟨bF, rfl, hF, h4⟩
  replace HP := HP.below h4
  replace hB := bt_ hB h4
  replace ha := ha.below h4
  replace ht := ht.below h4
  replace hw := hw.below h4
  clear c0 c1 c2 c3 c4 c5
  obtain ⟨c0, c1, c2, c3, c4, c5⟩ := cells6 HP
  clear h4
  go_wp2_with fail
  refine (dDeal_ok bF p h _ _ a t _ hF ha ht hl hla.out).mono ?_
  rintro e w4 ⟨g, vs, rfl, hR, h4⟩
  replace hF := hF.below h4
  replace HP := HP.below h4
  replace hB := bt_ hB h4
  replace ha := ha.below h4
  replace ht := ht.below h4
  replace hw := hw.below h4
  clear c0 c1 c2 c3 c4 c5
  obtain ⟨c0, c1, c2, c3, c4, c5⟩ := cells6 HP
  clear h4
  generalize hNN : p.N.toNat = N at *
  replace hNN := Lib.hid hNN
  have hN12 : N ≤ 12 := by omega
  replace eN := Lib.hid eN
  go_wp2_with fail
  have hB9 := hB
  have hR4 := Lib.hid hR
  clear hB
  go_loopw [12, 14, 85] (fun s _ i wr => ∃ (k : Nat) (us : List SV), k ≤ who.length ∧ i = .int .i64 k ∧ Ov w4 wr s us ∧ Hid (us.length = k ∧ (∀ j ∈ who.take k, 1 ≤ j ∧ j ≤ p.N) ∧ ∀ (j : Nat) (u : SV), us[j]? = some u → Rb w4 u.1 (F.dshare (polysOf p a t) (point (who.getD j 0)))) ∧ Below w4.heap.size w4 wr) (fun _ _ i _ => who.length - (intOf i).toNat)
  case atStart => exact ⟨0, [], by omega, rfl, Own.nil _ _ _ _, Lib.hid ⟨rfl, fun j hj => by simp at hj, fun j u hj => by simp at hj⟩, Below.refl _ _⟩
  case round =>
    obtain ⟨k, us, hk, rfl, hO, hus, hB⟩ := hrel
    replace hF := hF.below hB
    replace hR := hR.below hB
    replace ha := ha.below hB
    replace hw := hw.below hB
    replace HP := HP.below hB
    replace hB9 := bt_ hB9 hB
    clear c0 c1 c2 c3 c4 c5
    obtain ⟨c0, c1, c2, c3, c4, c5⟩ := cells6 HP
    by_cases hlt : k < who.length
    · obtain ⟨ad, e1, d0⟩ := ki_at (ri_C hw) k hlt
      subst e1
      have hti := Lib.hid (take_snoc' who k 0 hlt)
      have hgi : Hid (∀ j, j = k → who.getD j 0 = who.getD k 0) := Lib.hid (fun j e => by rw [e])
      generalize who.getD k 0 = i at *
      by_cases hin : 1 ≤ i ∧ i ≤ p.N
      · have hd := Lib.hid (decide_eq_true hin)
        obtain ⟨m, hm⟩ : ∃ m : Nat, i - 1 = (m : Int) := ⟨(i - 1).toNat, by omega⟩
        have u2 : IntKind.i64.wrap (i - 1) = (m : Int) := by rw [hm]; exact wrapI _ (by omega) (by omega)
        have hmN : m < N := by have := eN.out; omega
        have hmi : (m : Int) < (N : Int) := by omega
        have hul := (hus.out).1
        have hrow : Hid (shs p a t m = F.dshare (polysOf p a t) (point i)) := Lib.hid (by
          have := shs_at p a t i hin.1
          rw [hm] at this
          exact this)
        replace hin := Lib.hid hin
        clear hm
        go_wp2_with fail
        refine (rIs_c p i _).mono ?_
        rintro e w5 ⟨rfl, h5⟩
        rw [hd.out]
        replace hO := hO.below h5
        have hu0 := (hR4.out.own m hmN).rk
        rw [hrow.out] at hu0
        have z0 := (hR.below h5).cell m hmN
        generalize vs m = u at *
        obtain ⟨Au, nu, cu, rfl⟩ : ∃ A m c, u = .slice A m c := (rk_form hu0).elim fun A h => h.elim fun c h => ⟨A, _, c, h⟩
        have hBn := bt_ hB h5
        have hle : us.length ≤ 14 := by omega
        go_wp2_with (at_builtin; refine app_one (enc := Subtype.val) (h1 := fun y => y.2) rfl (.tmp 94) (.tmp 100) 66 40 (.slice none 0 0) 24 rfl Try.underlying66 infoR rfl (by decide) _ _ (⟨.slice Au nu cu, rfl⟩ : SV) rfl rfl _ rfl hO hBn ?hl ?_; (case hl => (first | (simp; omega) | omega)); intro v1 w1 ho hb hg)
        refine ⟨⟨k + 1, _, by omega, by go_num, ho, Lib.hid ⟨by rw [List.length_append, hul]; rfl, fun j hj => ?_, fun j u' hj => ?_⟩, hb⟩, by simp [intOf]; try omega⟩
        · rw [hti.out] at hj
          rcases List.mem_append.1 hj with hj | hj
          · exact hus.out.2.1 j hj
          · have : j = i := by simpa using hj
            rw [this]; exact hin.out
        · by_cases e : j = k
          · subst e
            rw [List.getElem?_append_right (by omega), hul, Nat.sub_self] at hj
            have hj : (⟨.slice Au nu cu, rfl⟩ : SV) = u' := by simpa using hj
            subst hj
            rw [hgi.out _ rfl]
            exact hu0
          · by_cases e2 : j < k
            · rw [List.getElem?_append_left (by omega)] at hj
              exact hus.out.2.2 j u' hj
            · rw [List.getElem?_eq_none (by rw [List.length_append, hul]; simp; omega)] at hj
              cases hj
      · have hd := Lib.hid (decide_eq_false hin)
        go_wp2_with fail
        refine (rIs_c p i _).mono ?_
        rintro e w5 ⟨rfl, h5⟩
        rw [hd.out]
        have hB := bt_ hB9 h5
        go_wp2_with fail
        refine (alive11 _).mono ?_
        rintro e w9 ⟨rfl, h⟩
        have hB := bt_ hB h
        clear h
        go_wp2
        go_ret
        exact ⟨rfl, hB⟩
    · obtain rfl : k = who.length := by omega
      have hus3 := hus.out.2.2
      have hus1 := hus.out.1
      have hgw : ∀ i ∈ who, 1 ≤ i ∧ i ≤ p.N := fun i hi => hus.out.2.1 i (by rw [List.take_length]; exact hi)
      obtain ⟨b1, b2, b3⟩ := hback.out hgw
      replace b1 := Lib.hid b1
      replace b2 := Lib.hid b2
      replace b3 := Lib.hid b3
      have hS : Rbb wr _ (who.map fun i => F.dshare (polysOf p a t) (point i)) := ov_reads hO (by rw [List.length_map]; exact hus1) (fun j u l hj hl9 => by
        have hjl : j < who.length := by rw [← hus1]; exact (List.getElem?_eq_some_iff.1 hj).1
        rw [List.getElem?_map, List.getElem?_eq_getElem hjl] at hl9
        have hl9 : F.dshare (polysOf p a t) (point (who[j])) = l := by simpa using hl9
        have := hus3 j u hj
        rw [List.getD_eq_getElem?_getD, List.getElem?_eq_getElem hjl] at this
        rw [← hl9]
        exact this.below hB)
      generalize (who.map fun i => F.dshare (polysOf p a t) (point i)) = sh at *
      clear hO hus hus1 hus3 hR hB
      have hwl : who.length ≤ 1000 := by omega
      go_wp2_with fail
      refine (rbBlob_ok bF p h a.length hl K eK.out hK.out _ _ who sh _ hF hw hS hwl b1.out).mono ?_
      rintro e w5 ⟨z, rfl, sZ, h5⟩
      rw [b2.out] at sZ
      replace sZ := sZ.rk
      replace hF := hF.below h5
      replace hS := hS.below h5
      replace ha := ha.below h5
      replace hw := hw.below h5
      replace HP := HP.below h5
      replace hB9 := bt_ hB9 h5
      clear c0 c1 c2 c3 c4 c5 h5
      obtain ⟨c0, c1, c2, c3, c4, c5⟩ := cells6 HP
      go_wp2_with fail
      refine (rSame_c _ _ a a _ sZ ha).mono ?_
      rintro e w6 ⟨rfl, h6⟩
      rw [decide_eq_true (rfl : a = a)]
      replace h6 := h6.below
      replace hF := hF.below h6
      replace hS := hS.below h6
      replace hw := hw.below h6
      replace HP := HP.below h6
      replace hB9 := bt_ hB9 h6
      clear c0 c1 c2 c3 c4 c5 h6 sZ ha
      obtain ⟨c0, c1, c2, c3, c4, c5⟩ := cells6 HP
      go_wp2_with fail
      refine (rbAgree_ok bF p h a.length hl K eK.out hK.out _ _ who sh _ hF hw hS hwl b1.out).mono ?_
      rintro e w7 ⟨bb, rfl, hbb, h7⟩
      obtain rfl : bb = true := hbb.2 b3.out
      have hB := bt_ hB9 h7
      go_wp2_with fail
      refine (alive11 _).mono ?_
      rintro e w9 ⟨rfl, h⟩
      have hB := bt_ hB h
      clear h
      go_wp2
      go_ret
      exact ⟨rfl, hB⟩
set_option maxRecDepth 100000 in
theorem RebuildBack_walk (w : World) (N : Int) (hN : -9223372036854775808 ≤ N ∧ N ≤ 9223372036854775807) (T : Int) (hT : -9223372036854775808 ≤ T ∧ T ≤ 9223372036854775807) (L : Int) (hL : -9223372036854775808 ≤ L ∧ L ≤ 9223372036854775807) (W : Int) (hW : -9223372036854775808 ≤ W ∧ W ≤ 9223372036854775807) (S : Int) (hS : -9223372036854775808 ≤ S ∧ S ≤ 9223372036854775807) (R : Int) (hR : -9223372036854775808 ≤ R ∧ R ≤ 9223372036854775807) (va : Value) (a : List F) (ha : Rb w va a) (vt : Value) (t : List F) (ht : Rb w vt t) (vw : Value) (who : List Int) (hw : Ri w vw who) (hq : ∀ y ∈ who, -9223372036854775808 ≤ y ∧ y ≤ 9223372036854775807) :
   Calls Try.prog 36 #[.agg #[.int .i64 N, .int .i64 T, .int .i64 L, .int .i64 W, .int .i64 S, .int .i64 R], .agg #[va, vt], vw] w fun e w' => e = .returned (.bool true) ∧ Below w.heap.size w w' := by
  by_cases hLt : Lite ⟨N, T, L, W, S, R⟩
  · have hi : Pl.In ⟨N, T, L, W, S, R⟩ := ⟨hN, hT, hL, hW, hS, hR⟩
    by_cases h : (Pl.mk N T L W S R).Ok
    · by_cases hl : a.length ≤ 240
      · obtain ⟨n, hn⟩ : ∃ n : Nat, (Pl.mk N T L W S R).T.toNat * F.nS (Pl.mk N T L W S R).L.toNat a.length = n := ⟨_, rfl⟩
        obtain ⟨K, eK⟩ : ∃ K : Nat, (Pl.mk N T L W S R).T + (Pl.mk N T L W S R).L = (K : Int) := ⟨(T + L).toNat, by have h1 := h.t; have h2 := h.l; show T + L = _; have h1 : 1 ≤ T := h1; have h2 : 1 ≤ L := h2; omega⟩
        by_cases h2 : n ≤ t.length ∧ who.length ≤ 14 ∧ K ≤ who.length
        · by_cases hu : (who.map point).Nodup
          · exact rebuildBack_5 ⟨N, T, L, W, S, R⟩ va vt vw a t who w ha ht hw hLt h hl n hn K eK h2.1 h2.2.1 h2.2.2 hu
          · exact rebuildBack_4 ⟨N, T, L, W, S, R⟩ va vt vw a t who w ha ht hw hLt h hl n hn K eK h2.1 h2.2.1 h2.2.2 hu
        · exact rebuildBack_3 ⟨N, T, L, W, S, R⟩ va vt vw a t who w ha ht hw hLt h hl n hn K eK h2
      · exact rebuildBack_2 ⟨N, T, L, W, S, R⟩ va vt vw a t who w ha ht hw hLt h hl
    · exact rebuildBack_1 ⟨N, T, L, W, S, R⟩ va vt vw a t who w ha ht hw hi hLt h
  · exact rebuildBack_0 ⟨N, T, L, W, S, R⟩ va vt vw a t who w ha ht hw hLt
end Go.Proofs.Ytijeabhfddaoaaa
