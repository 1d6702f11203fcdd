/- The walk of the law DealSums. -/
import Derived.Test.YtijeabhfddaoaaaL10
import Derived.Test.YtijeabhfddaoaaaR10x
namespace Go.Proofs.Ytijeabhfddaoaaa
set_option linter.unusedVariables false
open Go.RowKit Go.Proofs.YtijeabhfddaoaaaW.PrintWords Go.Proofs.Sh

/-- The shares of both blobs and both tapes together. -/
def shx (p : Pl) (a b s t : List F) (n : Nat) : Nat → List F := shs p (F.xorL a b) (F.xorL (s.take n) (t.take n))
set_option maxRecDepth 100000 in
set_option maxHeartbeats 3200000 in
theorem dealSums_0 (p : Pl) (va vb vs vt : Value) (a b s t : List F) (w : World) (ha : Rb w va a) (hb : Rb w vb b) (hs : Rb w vs s) (ht : Rb w vt t) (h : ¬ Lite p) :
   Calls Try.prog 24 #[planV p, .agg #[va, vb], .agg #[vs, vt]] w fun e w' => e = .returned (.bool true) ∧ Below w.heap.size w w' := by
  have hL := Lib.hid (decide_eq_false h)
  clear h
  obtain ⟨Aa, ca, rfl⟩ := rk_form ha
  obtain ⟨Ab, cb, rfl⟩ := rk_form hb
  obtain ⟨As, cs, rfl⟩ := rk_form hs
  obtain ⟨At, ct, rfl⟩ := rk_form ht
  have HP := ((Blk.new w (planC p) 33).alloc (.cells #[.slice Aa a.length ca, .slice Ab b.length cb] 103)).alloc (.cells #[.slice As s.length cs, .slice At t.length ct] 103)
  have HQ := (Blk.new' (w.alloc (.cells (planC p) 33)) #[.slice Aa a.length ca, .slice Ab b.length cb] 103 (World.size_alloc _ _)).alloc (.cells #[.slice As s.length cs, .slice At t.length ct] 103)
  have HR := Blk.new' ((w.alloc (.cells (planC p) 33)).alloc (.cells #[.slice Aa a.length ca, .slice Ab b.length cb] 103)) #[.slice As s.length cs, .slice At t.length ct] 103 (by rw [World.size_alloc, World.size_alloc])
  have hB := below_alloc (below_alloc (below_alloc (Below.refl w.heap.size w) (.cells (planC p) 33)) (.cells #[.slice Aa a.length ca, .slice Ab b.length cb] 103)) (.cells #[.slice As s.length cs, .slice At t.length ct] 103)
  replace ha := ha.below hB
  replace hb := hb.below hB
  replace hs := hs.below hB
  replace ht := ht.below hB
  go_enter Try.func24, Try.ntmps24
  go_wp2_with fail
  generalize ((w.alloc (.cells (planC p) 33)).alloc (.cells #[.slice Aa a.length ca, .slice Ab b.length cb] 103)).alloc (.cells #[.slice As s.length cs, .slice At t.length ct] 103) = w1 at *
  obtain ⟨c0, c1, c2, c3, c4, c5⟩ := cells6 HP; have q0 := HQ.cell 0 _ rfl; have q1 := HQ.cell 1 _ rfl; have r0 := HR.cell 0 _ rfl; have r1 := HR.cell 1 _ rfl
  go_wp2_with fail
  refine (light_c p _).mono ?_
  rintro e w2 ⟨rfl, h2⟩
  rw [hL.out]
  replace HP := HP.below h2
  replace HQ := HQ.below h2
  replace HR := HR.below h2
  replace hB := bt_ hB h2
  replace ha := ha.below h2
  replace hb := hb.below h2
  replace hs := hs.below h2
  replace ht := ht.below h2
  clear c0 c1 c2 c3 c4 c5 q0 q1 r0 r1
  obtain ⟨c0, c1, c2, c3, c4, c5⟩ := cells6 HP; have q0 := HQ.cell 0 _ rfl; have q1 := HQ.cell 1 _ rfl; have r0 := HR.cell 0 _ rfl; have r1 := HR.cell 1 _ rfl
  clear h2
  go_wp2_with fail
  refine (alive10 _).mono ?_
  rintro e w9 ⟨rfl, h⟩
  have hB := bt_ hB h
  clear h
  go_wp2
  go_ret
  exact ⟨rfl, hB⟩
set_option maxRecDepth 100000 in
set_option maxHeartbeats 3200000 in
theorem dealSums_1 (p : Pl) (va vb vs vt : Value) (a b s t : List F) (w : World) (ha : Rb w va a) (hb : Rb w vb b) (hs : Rb w vs s) (ht : Rb w vt t) (hi : p.In) (hL0 : Lite p) (h : ¬ p.Ok) :
   Calls Try.prog 24 #[planV p, .agg #[va, vb], .agg #[vs, vt]] w fun e w' => e = .returned (.bool true) ∧ Below w.heap.size w w' := by
  have hL := Lib.hid (decide_eq_true hL0)
  obtain ⟨Aa, ca, rfl⟩ := rk_form ha
  obtain ⟨Ab, cb, rfl⟩ := rk_form hb
  obtain ⟨As, cs, rfl⟩ := rk_form hs
  obtain ⟨At, ct, rfl⟩ := rk_form ht
  have HP := ((Blk.new w (planC p) 33).alloc (.cells #[.slice Aa a.length ca, .slice Ab b.length cb] 103)).alloc (.cells #[.slice As s.length cs, .slice At t.length ct] 103)
  have HQ := (Blk.new' (w.alloc (.cells (planC p) 33)) #[.slice Aa a.length ca, .slice Ab b.length cb] 103 (World.size_alloc _ _)).alloc (.cells #[.slice As s.length cs, .slice At t.length ct] 103)
  have HR := Blk.new' ((w.alloc (.cells (planC p) 33)).alloc (.cells #[.slice Aa a.length ca, .slice Ab b.length cb] 103)) #[.slice As s.length cs, .slice At t.length ct] 103 (by rw [World.size_alloc, World.size_alloc])
  have hB := below_alloc (below_alloc (below_alloc (Below.refl w.heap.size w) (.cells (planC p) 33)) (.cells #[.slice Aa a.length ca, .slice Ab b.length cb] 103)) (.cells #[.slice As s.length cs, .slice At t.length ct] 103)
  replace ha := ha.below hB
  replace hb := hb.below hB
  replace hs := hs.below hB
  replace ht := ht.below hB
  go_enter Try.func24, Try.ntmps24
  go_wp2_with fail
  generalize ((w.alloc (.cells (planC p) 33)).alloc (.cells #[.slice Aa a.length ca, .slice Ab b.length cb] 103)).alloc (.cells #[.slice As s.length cs, .slice At t.length ct] 103) = w1 at *
  obtain ⟨c0, c1, c2, c3, c4, c5⟩ := cells6 HP; have q0 := HQ.cell 0 _ rfl; have q1 := HQ.cell 1 _ rfl; have r0 := HR.cell 0 _ rfl; have r1 := HR.cell 1 _ rfl
  go_wp2_with fail
  refine (light_c p _).mono ?_
  rintro e w2 ⟨rfl, h2⟩
  rw [hL.out]
  replace HP := HP.below h2
  replace HQ := HQ.below h2
  replace HR := HR.below h2
  replace hB := bt_ hB h2
  replace ha := ha.below h2
  replace hb := hb.below h2
  replace hs := hs.below h2
  replace ht := ht.below h2
  clear c0 c1 c2 c3 c4 c5 q0 q1 r0 r1
  obtain ⟨c0, c1, c2, c3, c4, c5⟩ := cells6 HP; have q0 := HQ.cell 0 _ rfl; have q1 := HQ.cell 1 _ rfl; have r0 := HR.cell 0 _ rfl; have r1 := HR.cell 1 _ rfl
  clear h2
  go_wp2_with fail
  refine (rRight_no p hi h _).mono ?_
  rintro e w3 ⟨rfl, h3⟩
  replace hB := bt_ hB h3
  go_wp2_with fail
  refine (alive10 _).mono ?_
  rintro e w9 ⟨rfl, h⟩
  have hB := bt_ hB h
  clear h
  go_wp2
  go_ret
  exact ⟨rfl, hB⟩
set_option maxRecDepth 100000 in
set_option maxHeartbeats 3200000 in
theorem dealSums_2 (p : Pl) (va vb vs vt : Value) (a b s t : List F) (w : World) (ha : Rb w va a) (hb : Rb w vb b) (hs : Rb w vs s) (ht : Rb w vt t) (hL0 : Lite p) (h : p.Ok) (hx : ¬ (a.length ≤ 60 ∧ a.length = b.length)) :
   Calls Try.prog 24 #[planV p, .agg #[va, vb], .agg #[vs, vt]] w fun e w' => e = .returned (.bool true) ∧ Below w.heap.size w w' := by
  have hL := Lib.hid (decide_eq_true hL0)
  by_cases h1 : a.length ≤ 60
  · have t3 : decide ((60 : Int) < (a.length : Int)) = false := decide_eq_false (by omega)
    have tE : ((a.length : Int) != (b.length : Int)) = true := bne_iff_ne.2 (fun e => hx ⟨h1, by omega⟩)
    clear hx h1
    obtain ⟨Aa, ca, rfl⟩ := rk_form ha
    obtain ⟨Ab, cb, rfl⟩ := rk_form hb
    obtain ⟨As, cs, rfl⟩ := rk_form hs
    obtain ⟨At, ct, rfl⟩ := rk_form ht
    have HP := ((Blk.new w (planC p) 33).alloc (.cells #[.slice Aa a.length ca, .slice Ab b.length cb] 103)).alloc (.cells #[.slice As s.length cs, .slice At t.length ct] 103)
    have HQ := (Blk.new' (w.alloc (.cells (planC p) 33)) #[.slice Aa a.length ca, .slice Ab b.length cb] 103 (World.size_alloc _ _)).alloc (.cells #[.slice As s.length cs, .slice At t.length ct] 103)
    have HR := Blk.new' ((w.alloc (.cells (planC p) 33)).alloc (.cells #[.slice Aa a.length ca, .slice Ab b.length cb] 103)) #[.slice As s.length cs, .slice At t.length ct] 103 (by rw [World.size_alloc, World.size_alloc])
    have hB := below_alloc (below_alloc (below_alloc (Below.refl w.heap.size w) (.cells (planC p) 33)) (.cells #[.slice Aa a.length ca, .slice Ab b.length cb] 103)) (.cells #[.slice As s.length cs, .slice At t.length ct] 103)
    replace ha := ha.below hB
    replace hb := hb.below hB
    replace hs := hs.below hB
    replace ht := ht.below hB
    go_enter Try.func24, Try.ntmps24
    go_wp2_with fail
    generalize ((w.alloc (.cells (planC p) 33)).alloc (.cells #[.slice Aa a.length ca, .slice Ab b.length cb] 103)).alloc (.cells #[.slice As s.length cs, .slice At t.length ct] 103) = w1 at *
    obtain ⟨c0, c1, c2, c3, c4, c5⟩ := cells6 HP; have q0 := HQ.cell 0 _ rfl; have q1 := HQ.cell 1 _ rfl; have r0 := HR.cell 0 _ rfl; have r1 := HR.cell 1 _ rfl
    go_wp2_with fail
    refine (light_c p _).mono ?_
    rintro e w2 ⟨rfl, h2⟩
    rw [hL.out]
    replace HP := HP.below h2
    replace HQ := HQ.below h2
    replace HR := HR.below h2
    replace hB := bt_ hB h2
    replace ha := ha.below h2
    replace hb := hb.below h2
    replace hs := hs.below h2
    replace ht := ht.below h2
    clear c0 c1 c2 c3 c4 c5 q0 q1 r0 r1
    obtain ⟨c0, c1, c2, c3, c4, c5⟩ := cells6 HP; have q0 := HQ.cell 0 _ rfl; have q1 := HQ.cell 1 _ rfl; have r0 := HR.cell 0 _ rfl; have r1 := HR.cell 1 _ rfl
    clear h2
    go_wp2_with fail
    refine (rRight_yes p h _).mono ?_
    rintro e w3 ⟨rfl, h3⟩
    replace HP := HP.below h3
    replace HQ := HQ.below h3
    replace HR := HR.below h3
    replace hB := bt_ hB h3
    replace ha := ha.below h3
    replace hb := hb.below h3
    replace hs := hs.below h3
    replace ht := ht.below h3
    clear c0 c1 c2 c3 c4 c5 q0 q1 r0 r1
    obtain ⟨c0, c1, c2, c3, c4, c5⟩ := cells6 HP; have q0 := HQ.cell 0 _ rfl; have q1 := HQ.cell 1 _ rfl; have r0 := HR.cell 0 _ rfl; have r1 := HR.cell 1 _ rfl
    clear h3
    go_wp2_with fail
    refine (alive10 _).mono ?_
    rintro e w9 ⟨rfl, h⟩
    have hB := bt_ hB h
    clear h
    go_wp2
    go_ret
    exact ⟨rfl, hB⟩
  · have t3 : (60 : Int) < (a.length : Int) := by omega
    clear hx h1
    obtain ⟨Aa, ca, rfl⟩ := rk_form ha
    obtain ⟨Ab, cb, rfl⟩ := rk_form hb
    obtain ⟨As, cs, rfl⟩ := rk_form hs
    obtain ⟨At, ct, rfl⟩ := rk_form ht
    have HP := ((Blk.new w (planC p) 33).alloc (.cells #[.slice Aa a.length ca, .slice Ab b.length cb] 103)).alloc (.cells #[.slice As s.length cs, .slice At t.length ct] 103)
    have HQ := (Blk.new' (w.alloc (.cells (planC p) 33)) #[.slice Aa a.length ca, .slice Ab b.length cb] 103 (World.size_alloc _ _)).alloc (.cells #[.slice As s.length cs, .slice At t.length ct] 103)
    have HR := Blk.new' ((w.alloc (.cells (planC p) 33)).alloc (.cells #[.slice Aa a.length ca, .slice Ab b.length cb] 103)) #[.slice As s.length cs, .slice At t.length ct] 103 (by rw [World.size_alloc, World.size_alloc])
    have hB := below_alloc (below_alloc (below_alloc (Below.refl w.heap.size w) (.cells (planC p) 33)) (.cells #[.slice Aa a.length ca, .slice Ab b.length cb] 103)) (.cells #[.slice As s.length cs, .slice At t.length ct] 103)
    replace ha := ha.below hB
    replace hb := hb.below hB
    replace hs := hs.below hB
    replace ht := ht.below hB
    go_enter Try.func24, Try.ntmps24
    go_wp2_with fail
    generalize ((w.alloc (.cells (planC p) 33)).alloc (.cells #[.slice Aa a.length ca, .slice Ab b.length cb] 103)).alloc (.cells #[.slice As s.length cs, .slice At t.length ct] 103) = w1 at *
    obtain ⟨c0, c1, c2, c3, c4, c5⟩ := cells6 HP; have q0 := HQ.cell 0 _ rfl; have q1 := HQ.cell 1 _ rfl; have r0 := HR.cell 0 _ rfl; have r1 := HR.cell 1 _ rfl
    go_wp2_with fail
    refine (light_c p _).mono ?_
    rintro e w2 ⟨rfl, h2⟩
    rw [hL.out]
    replace HP := HP.below h2
    replace HQ := HQ.below h2
    replace HR := HR.below h2
    replace hB := bt_ hB h2
    replace ha := ha.below h2
    replace hb := hb.below h2
    replace hs := hs.below h2
    replace ht := ht.below h2
    clear c0 c1 c2 c3 c4 c5 q0 q1 r0 r1
    obtain ⟨c0, c1, c2, c3, c4, c5⟩ := cells6 HP; have q0 := HQ.cell 0 _ rfl; have q1 := HQ.cell 1 _ rfl; have r0 := HR.cell 0 _ rfl; have r1 := HR.cell 1 _ rfl
    clear h2
    go_wp2_with fail
    refine (rRight_yes p h _).mono ?_
    rintro e w3 ⟨rfl, h3⟩
    replace HP := HP.below h3
    replace HQ := HQ.below h3
    replace HR := HR.below h3
    replace hB := bt_ hB h3
    replace ha := ha.below h3
    replace hb := hb.below h3
    replace hs := hs.below h3
    replace ht := ht.below h3
    clear c0 c1 c2 c3 c4 c5 q0 q1 r0 r1
    obtain ⟨c0, c1, c2, c3, c4, c5⟩ := cells6 HP; have q0 := HQ.cell 0 _ rfl; have q1 := HQ.cell 1 _ rfl; have r0 := HR.cell 0 _ rfl; have r1 := HR.cell 1 _ rfl
    clear h3
    go_wp2_with fail
    refine (alive10 _).mono ?_
    rintro e w9 ⟨rfl, h⟩
    have hB := bt_ hB h
    clear h
    go_wp2
    go_ret
    exact ⟨rfl, hB⟩
set_option maxRecDepth 100000 in
set_option maxHeartbeats 3200000 in
theorem dealSums_3 (p : Pl) (va vb vs vt : Value) (a b s t : List F) (w : World) (ha : Rb w va a) (hb : Rb w vb b) (hs : Rb w vs s) (ht : Rb w vt t) (hL0 : Lite p) (h : p.Ok) (h1 : a.length ≤ 60) (h2 : a.length = b.length) (n : Nat) (hn : p.T.toNat * F.nS p.L.toNat a.length = n) (hx : ¬ (n ≤ s.length ∧ n ≤ t.length)) :
   Calls Try.prog 24 #[planV p, .agg #[va, vb], .agg #[vs, vt]] w fun e w' => e = .returned (.bool true) ∧ Below w.heap.size w w' := by
  have hL := Lib.hid (decide_eq_true hL0)
  have hl : a.length ≤ 240 := by omega
  have t3 : decide ((60 : Int) < (a.length : Int)) = false := decide_eq_false (by omega)
  have tE : ((a.length : Int) != (b.length : Int)) = false := by rw [h2]; simp
  have hcost : Hid (p.T * (F.nS p.L.toNat a.length : Int) = (n : Int)) := Lib.hid (by
    have e0 : (p.T.toNat : Int) = p.T := by have := h.t; omega
    rw [← hn, Int.natCast_mul, e0])
  by_cases h3 : n ≤ s.length
  · have t5 : ¬ s.length < n := by omega
    have t6 : t.length < n := by
      have : ¬ n ≤ t.length := fun e => hx ⟨h3, e⟩
      omega
    clear hx h3 h2 hn h1
    obtain ⟨Aa, ca, rfl⟩ := rk_form ha
    obtain ⟨Ab, cb, rfl⟩ := rk_form hb
    obtain ⟨As, cs, rfl⟩ := rk_form hs
    obtain ⟨At, ct, rfl⟩ := rk_form ht
    have HP := ((Blk.new w (planC p) 33).alloc (.cells #[.slice Aa a.length ca, .slice Ab b.length cb] 103)).alloc (.cells #[.slice As s.length cs, .slice At t.length ct] 103)
    have HQ := (Blk.new' (w.alloc (.cells (planC p) 33)) #[.slice Aa a.length ca, .slice Ab b.length cb] 103 (World.size_alloc _ _)).alloc (.cells #[.slice As s.length cs, .slice At t.length ct] 103)
    have HR := Blk.new' ((w.alloc (.cells (planC p) 33)).alloc (.cells #[.slice Aa a.length ca, .slice Ab b.length cb] 103)) #[.slice As s.length cs, .slice At t.length ct] 103 (by rw [World.size_alloc, World.size_alloc])
    have hB := below_alloc (below_alloc (below_alloc (Below.refl w.heap.size w) (.cells (planC p) 33)) (.cells #[.slice Aa a.length ca, .slice Ab b.length cb] 103)) (.cells #[.slice As s.length cs, .slice At t.length ct] 103)
    replace ha := ha.below hB
    replace hb := hb.below hB
    replace hs := hs.below hB
    replace ht := ht.below hB
    go_enter Try.func24, Try.ntmps24
    go_wp2_with fail
    generalize ((w.alloc (.cells (planC p) 33)).alloc (.cells #[.slice Aa a.length ca, .slice Ab b.length cb] 103)).alloc (.cells #[.slice As s.length cs, .slice At t.length ct] 103) = w1 at *
    obtain ⟨c0, c1, c2, c3, c4, c5⟩ := cells6 HP; have q0 := HQ.cell 0 _ rfl; have q1 := HQ.cell 1 _ rfl; have r0 := HR.cell 0 _ rfl; have r1 := HR.cell 1 _ rfl
    go_wp2_with fail
    refine (light_c p _).mono ?_
    rintro e w2 ⟨rfl, h2⟩
    rw [hL.out]
    replace HP := HP.below h2
    replace HQ := HQ.below h2
    replace HR := HR.below h2
    replace hB := bt_ hB h2
    replace ha := ha.below h2
    replace hb := hb.below h2
    replace hs := hs.below h2
    replace ht := ht.below h2
    clear c0 c1 c2 c3 c4 c5 q0 q1 r0 r1
    obtain ⟨c0, c1, c2, c3, c4, c5⟩ := cells6 HP; have q0 := HQ.cell 0 _ rfl; have q1 := HQ.cell 1 _ rfl; have r0 := HR.cell 0 _ rfl; have r1 := HR.cell 1 _ rfl
    clear h2
    go_wp2_with fail
    refine (rRight_yes p h _).mono ?_
    rintro e w3 ⟨rfl, h3⟩
    replace HP := HP.below h3
    replace HQ := HQ.below h3
    replace HR := HR.below h3
    replace hB := bt_ hB h3
    replace ha := ha.below h3
    replace hb := hb.below h3
    replace hs := hs.below h3
    replace ht := ht.below h3
    clear c0 c1 c2 c3 c4 c5 q0 q1 r0 r1
    obtain ⟨c0, c1, c2, c3, c4, c5⟩ := cells6 HP; have q0 := HQ.cell 0 _ rfl; have q1 := HQ.cell 1 _ rfl; have r0 := HR.cell 0 _ rfl; have r1 := HR.cell 1 _ rfl
    clear h3
    go_wp2_with fail
    refine (rCost_c p h a.length hl _).mono ?_
    rintro e w4 ⟨rfl, h4⟩
    rw [hcost.out]
    replace HP := HP.below h4
    replace HQ := HQ.below h4
    replace HR := HR.below h4
    replace hB := bt_ hB h4
    replace ha := ha.below h4
    replace hb := hb.below h4
    replace hs := hs.below h4
    replace ht := ht.below h4
    clear c0 c1 c2 c3 c4 c5 q0 q1 r0 r1
    obtain ⟨c0, c1, c2, c3, c4, c5⟩ := cells6 HP; have q0 := HQ.cell 0 _ rfl; have q1 := HQ.cell 1 _ rfl; have r0 := HR.cell 0 _ rfl; have r1 := HR.cell 1 _ rfl
    clear h4
    go_wp2_with fail
    refine (alive10 _).mono ?_
    rintro e w9 ⟨rfl, h⟩
    have hB := bt_ hB h
    clear h
    go_wp2
    go_ret
    exact ⟨rfl, hB⟩
  · have t5 : s.length < n := by omega
    clear hx h3 h2 hn h1
    obtain ⟨Aa, ca, rfl⟩ := rk_form ha
    obtain ⟨Ab, cb, rfl⟩ := rk_form hb
    obtain ⟨As, cs, rfl⟩ := rk_form hs
    obtain ⟨At, ct, rfl⟩ := rk_form ht
    have HP := ((Blk.new w (planC p) 33).alloc (.cells #[.slice Aa a.length ca, .slice Ab b.length cb] 103)).alloc (.cells #[.slice As s.length cs, .slice At t.length ct] 103)
    have HQ := (Blk.new' (w.alloc (.cells (planC p) 33)) #[.slice Aa a.length ca, .slice Ab b.length cb] 103 (World.size_alloc _ _)).alloc (.cells #[.slice As s.length cs, .slice At t.length ct] 103)
    have HR := Blk.new' ((w.alloc (.cells (planC p) 33)).alloc (.cells #[.slice Aa a.length ca, .slice Ab b.length cb] 103)) #[.slice As s.length cs, .slice At t.length ct] 103 (by rw [World.size_alloc, World.size_alloc])
    have hB := below_alloc (below_alloc (below_alloc (Below.refl w.heap.size w) (.cells (planC p) 33)) (.cells #[.slice Aa a.length ca, .slice Ab b.length cb] 103)) (.cells #[.slice As s.length cs, .slice At t.length ct] 103)
    replace ha := ha.below hB
    replace hb := hb.below hB
    replace hs := hs.below hB
    replace ht := ht.below hB
    go_enter Try.func24, Try.ntmps24
    go_wp2_with fail
    generalize ((w.alloc (.cells (planC p) 33)).alloc (.cells #[.slice Aa a.length ca, .slice Ab b.length cb] 103)).alloc (.cells #[.slice As s.length cs, .slice At t.length ct] 103) = w1 at *
    obtain ⟨c0, c1, c2, c3, c4, c5⟩ := cells6 HP; have q0 := HQ.cell 0 _ rfl; have q1 := HQ.cell 1 _ rfl; have r0 := HR.cell 0 _ rfl; have r1 := HR.cell 1 _ rfl
    go_wp2_with fail
    refine (light_c p _).mono ?_
    rintro e w2 ⟨rfl, h2⟩
    rw [hL.out]
    replace HP := HP.below h2
    replace HQ := HQ.below h2
    replace HR := HR.below h2
    replace hB := bt_ hB h2
    replace ha := ha.below h2
    replace hb := hb.below h2
    replace hs := hs.below h2
    replace ht := ht.below h2
    clear c0 c1 c2 c3 c4 c5 q0 q1 r0 r1
    obtain ⟨c0, c1, c2, c3, c4, c5⟩ := cells6 HP; have q0 := HQ.cell 0 _ rfl; have q1 := HQ.cell 1 _ rfl; have r0 := HR.cell 0 _ rfl; have r1 := HR.cell 1 _ rfl
    clear h2
    go_wp2_with fail
    refine (rRight_yes p h _).mono ?_
    rintro e w3 ⟨rfl, h3⟩
    replace HP := HP.below h3
    replace HQ := HQ.below h3
    replace HR := HR.below h3
    replace hB := bt_ hB h3
    replace ha := ha.below h3
    replace hb := hb.below h3
    replace hs := hs.below h3
    replace ht := ht.below h3
    clear c0 c1 c2 c3 c4 c5 q0 q1 r0 r1
    obtain ⟨c0, c1, c2, c3, c4, c5⟩ := cells6 HP; have q0 := HQ.cell 0 _ rfl; have q1 := HQ.cell 1 _ rfl; have r0 := HR.cell 0 _ rfl; have r1 := HR.cell 1 _ rfl
    clear h3
    go_wp2_with fail
    refine (rCost_c p h a.length hl _).mono ?_
    rintro e w4 ⟨rfl, h4⟩
    rw [hcost.out]
    replace HP := HP.below h4
    replace HQ := HQ.below h4
    replace HR := HR.below h4
    replace hB := bt_ hB h4
    replace ha := ha.below h4
    replace hb := hb.below h4
    replace hs := hs.below h4
    replace ht := ht.below h4
    clear c0 c1 c2 c3 c4 c5 q0 q1 r0 r1
    obtain ⟨c0, c1, c2, c3, c4, c5⟩ := cells6 HP; have q0 := HQ.cell 0 _ rfl; have q1 := HQ.cell 1 _ rfl; have r0 := HR.cell 0 _ rfl; have r1 := HR.cell 1 _ rfl
    clear h4
    go_wp2_with fail
    refine (alive10 _).mono ?_
    rintro e w9 ⟨rfl, h⟩
    have hB := bt_ hB h
    clear h
    go_wp2
    go_ret
    exact ⟨rfl, hB⟩
set_option maxRecDepth 100000 in
set_option maxHeartbeats 6400000 in
theorem dealSums_4 (p : Pl) (va vb vs vt : Value) (a b s t : List F) (w : World) (ha : Rb w va a) (hb : Rb w vb b) (hs : Rb w vs s) (ht : Rb w vt t) (hL0 : Lite p) (h : p.Ok) (h1 : a.length ≤ 60) (h2 : a.length = b.length) (n : Nat) (hn : p.T.toNat * F.nS p.L.toNat a.length = n) (hy1 : n ≤ s.length) (hy2 : n ≤ t.length) :
   Calls Try.prog 24 #[planV p, .agg #[va, vb], .agg #[vs, vt]] w fun e w' => e = .returned (.bool true) ∧ Below w.heap.size w w' := by
  have hL := Lib.hid (decide_eq_true hL0)
  have hl : a.length ≤ 240 := by omega
  have hlb : b.length ≤ 240 := by omega
  have t3 : decide ((60 : Int) < (a.length : Int)) = false := decide_eq_false (by omega)
  have tE : ((a.length : Int) != (b.length : Int)) = false := by rw [h2]; simp
  have hcost : Hid (p.T * (F.nS p.L.toNat a.length : Int) = (n : Int)) := Lib.hid (by
    have e0 : (p.T.toNat : Int) = p.T := by have := h.t; omega
    rw [← hn, Int.natCast_mul, e0])
  have t5 : ¬ s.length < n := by omega
  have t6 : ¬ t.length < n := by omega
  have hla : Hid (p.T * (F.nS p.L.toNat a.length : Int) ≤ (s.length : Int)) := Lib.hid (by rw [hcost.out]; omega)
  have hlb2 : Hid (p.T * (F.nS p.L.toNat b.length : Int) ≤ (t.length : Int)) := Lib.hid (by rw [← h2, hcost.out]; omega)
  have hx1 : Hid (a.length ≤ 1000000) := Lib.hid (by omega)
  have hn9 : n ≤ 3000 := by
    have e1 := F.nS_le_len p.L.toNat a.length (by have := h.l; omega)
    have e2 : p.T.toNat ≤ 12 := by have := hL0.2.2; omega
    rw [← hn]
    exact Nat.le_trans (Nat.mul_le_mul e2 (Nat.le_trans e1 h1)) (by decide)
  have hx2 : Hid ((s.take n).length ≤ 1000000) := Lib.hid (by rw [List.length_take]; omega)
  have hx3 : Hid ((F.xorL a b).length ≤ 240) := Lib.hid (by rw [F.xorL_len]; exact hl)
  have hx4 : Hid (p.T * (F.nS p.L.toNat (F.xorL a b).length : Int) ≤ ((F.xorL (s.take n) (t.take n)).length : Int)) := Lib.hid (by rw [F.xorL_len, F.xorL_len, hcost.out, List.length_take]; omega)
  have hsum : Hid (∀ k, shx p a b s t n k = F.xorL (shs p a s k) (shs p b t k)) := Lib.hid (fun k => shs_xor p h a b s t h2 n hn hy1 hy2 k)
  have hlen1 : Hid (∀ k, (shs p a s k).length = F.nS p.L.toNat a.length) := Lib.hid (fun k => by unfold shs; rw [F.dshare_len, polys_len])
  have hlen2 : Hid (∀ k, (shs p b t k).length = F.nS p.L.toNat a.length) := Lib.hid (fun k => by unfold shs; rw [F.dshare_len, polys_len, h2])
  have hS9 : Hid (F.nS p.L.toNat a.length ≤ 240) := Lib.hid (Nat.le_trans (F.nS_le_len p.L.toNat a.length (by have := h.l; omega)) hl)
  have eN : (p.N.toNat : Int) = p.N := by have := h.t; have := h.l; have := h.tl; have := h.wn; omega
  have tN : ((p.N.toNat : Int) != p.N) = false := by rw [eN]; simp
  have hN9 := hL0.1
  replace hy1 := Lib.hid hy1
  replace hy2 := Lib.hid hy2
  replace hn := Lib.hid hn
  replace h2 := Lib.hid h2
  obtain ⟨Aa, ca, rfl⟩ := rk_form ha
  obtain ⟨Ab, cb, rfl⟩ := rk_form hb
  obtain ⟨As, cs, rfl⟩ := rk_form hs
  obtain ⟨At, ct, rfl⟩ := rk_form ht
  have HP := ((Blk.new w (planC p) 33).alloc (.cells #[.slice Aa a.length ca, .slice Ab b.length cb] 103)).alloc (.cells #[.slice As s.length cs, .slice At t.length ct] 103)
  have HQ := (Blk.new' (w.alloc (.cells (planC p) 33)) #[.slice Aa a.length ca, .slice Ab b.length cb] 103 (World.size_alloc _ _)).alloc (.cells #[.slice As s.length cs, .slice At t.length ct] 103)
  have HR := Blk.new' ((w.alloc (.cells (planC p) 33)).alloc (.cells #[.slice Aa a.length ca, .slice Ab b.length cb] 103)) #[.slice As s.length cs, .slice At t.length ct] 103 (by rw [World.size_alloc, World.size_alloc])
  have hB := below_alloc (below_alloc (below_alloc (Below.refl w.heap.size w) (.cells (planC p) 33)) (.cells #[.slice Aa a.length ca, .slice Ab b.length cb] 103)) (.cells #[.slice As s.length cs, .slice At t.length ct] 103)
  replace ha := ha.below hB
  replace hb := hb.below hB
  replace hs := hs.below hB
  replace ht := ht.below hB
  go_enter Try.func24, Try.ntmps24
  go_wp2_with fail
  generalize ((w.alloc (.cells (planC p) 33)).alloc (.cells #[.slice Aa a.length ca, .slice Ab b.length cb] 103)).alloc (.cells #[.slice As s.length cs, .slice At t.length ct] 103) = w1 at *
  obtain ⟨c0, c1, c2, c3, c4, c5⟩ := cells6 HP; have q0 := HQ.cell 0 _ rfl; have q1 := HQ.cell 1 _ rfl; have r0 := HR.cell 0 _ rfl; have r1 := HR.cell 1 _ rfl
  go_wp2_with fail
  refine (light_c p _).mono ?_
  rintro e w2 ⟨rfl, h2⟩
  rw [hL.out]
  replace HP := HP.below h2
  replace HQ := HQ.below h2
  replace HR := HR.below h2
  replace hB := bt_ hB h2
  replace ha := ha.below h2
  replace hb := hb.below h2
  replace hs := hs.below h2
  replace ht := ht.below h2
  clear c0 c1 c2 c3 c4 c5 q0 q1 r0 r1
  obtain ⟨c0, c1, c2, c3, c4, c5⟩ := cells6 HP; have q0 := HQ.cell 0 _ rfl; have q1 := HQ.cell 1 _ rfl; have r0 := HR.cell 0 _ rfl; have r1 := HR.cell 1 _ rfl
  clear h2
  go_wp2_with fail
  refine (rRight_yes p h _).mono ?_
  rintro e w3 ⟨rfl, h3⟩
  replace HP := HP.below h3
  replace HQ := HQ.below h3
  replace HR := HR.below h3
  replace hB := bt_ hB h3
  replace ha := ha.below h3
  replace hb := hb.below h3
  replace hs := hs.below h3
  replace ht := ht.below h3
  clear c0 c1 c2 c3 c4 c5 q0 q1 r0 r1
  obtain ⟨c0, c1, c2, c3, c4, c5⟩ := cells6 HP; have q0 := HQ.cell 0 _ rfl; have q1 := HQ.cell 1 _ rfl; have r0 := HR.cell 0 _ rfl; have r1 := HR.cell 1 _ rfl
  clear h3
  go_wp2_with fail
  refine (rCost_c p h a.length hl _).mono ?_
  rintro e w4 ⟨rfl, h4⟩
  rw [hcost.out]
  replace HP := HP.below h4
  replace HQ := HQ.below h4
  replace HR := HR.below h4
  replace hB := bt_ hB h4
  replace ha := ha.below h4
  replace hb := hb.below h4
  replace hs := hs.below h4
  replace ht := ht.below h4
  clear c0 c1 c2 c3 c4 c5 q0 q1 r0 r1
  obtain ⟨c0, c1, c2, c3, c4, c5⟩ := cells6 HP; have q0 := HQ.cell 0 _ rfl; have q1 := HQ.cell 1 _ rfl; have r0 := HR.cell 0 _ rfl; have r1 := HR.cell 1 _ rfl
  clear h4
  have hsc := rk_cap hs
  have htc := rk_cap ht
  have sc1 : (n : Int) ≤ (cs : Int) := by have := hy1.out; omega
  have sc2 : (n : Int) ≤ (ct : Int) := by have := hy2.out; omega
  have sc0 : (0 : Int) ≤ (n : Int) := by omega
  go_wp2_with fail
  refine (new_x _).mono ?_
  rintro e w3 ⟨bF, rfl, hF, h3⟩
  replace HP := HP.below h3
  replace HQ := HQ.below h3
  replace HR := HR.below h3
  replace hB := bt_ hB h3
  replace ha := ha.below h3
  replace hb := hb.below h3
  replace hs := hs.below h3
  replace ht := ht.below h3
  clear c0 c1 c2 c3 c4 c5 q0 q1 r0 r1
  obtain ⟨c0, c1, c2, c3, c4, c5⟩ := cells6 HP; have q0 := HQ.cell 0 _ rfl; have q1 := HQ.cell 1 _ rfl; have r0 := HR.cell 0 _ rfl; have r1 := HR.cell 1 _ rfl
  clear h3
  go_wp2_with fail
  refine (dDeal_ok bF p h _ _ a s _ hF ha hs hl hla.out).mono ?_
  rintro e w4 ⟨g1, vs1, rfl, hR1, h4⟩
  replace hF := hF.below h4
  replace HP := HP.below h4
  replace HQ := HQ.below h4
  replace HR := HR.below h4
  replace hB := bt_ hB h4
  replace ha := ha.below h4
  replace hb := hb.below h4
  replace hs := hs.below h4
  replace ht := ht.below h4
  clear c0 c1 c2 c3 c4 c5 q0 q1 r0 r1
  obtain ⟨c0, c1, c2, c3, c4, c5⟩ := cells6 HP; have q0 := HQ.cell 0 _ rfl; have q1 := HQ.cell 1 _ rfl; have r0 := HR.cell 0 _ rfl; have r1 := HR.cell 1 _ rfl
  clear h4
  go_wp2_with fail
  refine (dDeal_ok bF p h _ _ b t _ hF hb ht hlb hlb2.out).mono ?_
  rintro e w5 ⟨g2, vs2, rfl, hR2, h5⟩
  replace hF := hF.below h5
  replace hR1 := hR1.below h5
  replace HP := HP.below h5
  replace HQ := HQ.below h5
  replace HR := HR.below h5
  replace hB := bt_ hB h5
  replace ha := ha.below h5
  replace hb := hb.below h5
  replace hs := hs.below h5
  replace ht := ht.below h5
  clear c0 c1 c2 c3 c4 c5 q0 q1 r0 r1
  obtain ⟨c0, c1, c2, c3, c4, c5⟩ := cells6 HP; have q0 := HQ.cell 0 _ rfl; have q1 := HQ.cell 1 _ rfl; have r0 := HR.cell 0 _ rfl; have r1 := HR.cell 1 _ rfl
  clear h5
  generalize hNN : p.N.toNat = N at *
  replace hNN := Lib.hid hNN
  have hN12 : N ≤ 12 := by omega
  replace eN := Lib.hid eN
  have hsn : Rb w5 (.slice As n cs) (s.take n) := ⟨As, cs, by rw [List.length_take, Nat.min_eq_left hy1.out], by rw [List.length_take]; omega, Kd.C_take (rk_C hs) hy1.out⟩
  have htn : Rb w5 (.slice At n ct) (t.take n) := ⟨At, ct, by rw [List.length_take, Nat.min_eq_left hy2.out], by rw [List.length_take]; omega, Kd.C_take (rk_C ht) hy2.out⟩
  have hB9 := hB
  clear hB c0 c1 c2 c3 c4 c5 q0 q1 r0 r1
  go_wp2_with fail
  refine wp_region_tell [.v (fp bF), .v (planV p), .v (.pointer (some ⟨w.heap.size + 1, 0, none⟩)), .v (.slice Aa a.length ca), .v (.pointer (some ⟨w.heap.size + 1, 1, none⟩)), .v (.slice Ab b.length cb), .p (isB (F.xorL a b)), .v (.pointer (some ⟨w.heap.size + 1 + 1, 0, none⟩)), .v (.slice As s.length cs), .v (.int .i64 (n : Int)), .v (.slice As n cs), .v (.pointer (some ⟨w.heap.size + 1 + 1, 1, none⟩)), .v (.slice At t.length ct), .v (.int .i64 (n : Int)), .v (.slice At n ct), .p (isB (F.xorL (s.take n) (t.take n))), .p (isTRw w5 N (shx p a b s t n)), .p (isTRw w5 N (shx p a b s t n)), .p (isRw w5 N (shx p a b s t n)), .v (.int .i64 0), .p (isRw w5 N (shx p a b s t n)), .v (.int .i64 0)] [([], none), ([], none), ([], none), ([(2, some 82)], none), ([], none), ([(4, some 84)], none), ([(3, some 83), (5, some 85)], none), ([], none), ([(7, some 87)], none), ([], none), ([(8, some 88), (9, some 89)], none), ([], none), ([(11, some 91)], none), ([], none), ([(12, some 92), (13, some 93)], none), ([(10, some 90), (14, some 94)], none), ([(0, some 80), (1, some 81), (6, some 86), (15, some 95)], none), ([(16, some 96)], none), ([(17, some 79)], none), ([(17, some 79)], none), ([(18, some 97)], none), ([(19, some 98)], none)] [(0, some 80), (1, some 81), (2, some 82), (3, some 83), (4, some 84), (5, some 85), (6, some 86), (7, some 87), (8, some 88), (9, some 89), (10, some 90), (11, some 91), (12, some 92), (13, some 93), (14, some 94), (15, some 95), (16, some 96), (17, some 79), (18, some 97), (19, some 98), (20, some 13), (21, some 14)] (by kernel_rfl) (by kernel_rfl) (by kernel_rfl) (by kernel_rfl) (by exact ⟨trivial, trivial, trivial, trivial, trivial, trivial, last_B _, trivial, trivial, trivial, trivial, trivial, trivial, trivial, trivial, last_B _, last_TRw _ _ _, last_TRw _ _ _, last_Rw _ _ _, trivial, last_Rw _ _ _, trivial, trivial⟩) ⟨?s0, ?s1, ?s2, ?s3, ?s4, ?s5, ?s6, ?s7, ?s8, ?s9, ?s10, ?s11, ?s12, ?s13, ?s14, ?s15, ?s16, ?s17, ?s18, ?s19, ?s20, ?s21, trivial⟩ ?hQ
  case s0 =>
    intro W hB K hK
    simp only [tellK, Act.put, List.setIfInBounds_toArray, List.set_cons_zero, List.set_cons_succ] at hK ⊢
    refine tell_do rfl ?_
    obtain ⟨c0, c1, c2, c3, c4, c5⟩ := cells6 (HP.below hB); have q0 := (HQ.below hB).cell 0 _ rfl; have q1 := (HQ.below hB).cell 1 _ rfl; have r0 := (HR.below hB).cell 0 _ rfl; have r1 := (HR.below hB).cell 1 _ rfl
    go_simp
    exact hK _ (Below.refl _ _)
  case s1 =>
    intro W hB K hK
    simp only [tellK, Act.put, List.setIfInBounds_toArray, List.set_cons_zero, List.set_cons_succ] at hK ⊢
    refine tell_do rfl ?_
    obtain ⟨c0, c1, c2, c3, c4, c5⟩ := cells6 (HP.below hB); have q0 := (HQ.below hB).cell 0 _ rfl; have q1 := (HQ.below hB).cell 1 _ rfl; have r0 := (HR.below hB).cell 0 _ rfl; have r1 := (HR.below hB).cell 1 _ rfl
    go_simp
    exact hK _ (Below.refl _ _)
  case s2 =>
    intro W hB K hK
    simp only [tellK, Act.put, List.setIfInBounds_toArray, List.set_cons_zero, List.set_cons_succ] at hK ⊢
    refine tell_do rfl ?_
    obtain ⟨c0, c1, c2, c3, c4, c5⟩ := cells6 (HP.below hB); have q0 := (HQ.below hB).cell 0 _ rfl; have q1 := (HQ.below hB).cell 1 _ rfl; have r0 := (HR.below hB).cell 0 _ rfl; have r1 := (HR.below hB).cell 1 _ rfl
    go_simp
    exact hK _ (Below.refl _ _)
  case s3 =>
    intro W hB K hK
    simp only [tellK, Act.put, List.setIfInBounds_toArray, List.set_cons_zero, List.set_cons_succ] at hK ⊢
    refine tell_do rfl ?_
    obtain ⟨c0, c1, c2, c3, c4, c5⟩ := cells6 (HP.below hB); have q0 := (HQ.below hB).cell 0 _ rfl; have q1 := (HQ.below hB).cell 1 _ rfl; have r0 := (HR.below hB).cell 0 _ rfl; have r1 := (HR.below hB).cell 1 _ rfl
    go_simp
    exact hK _ (Below.refl _ _)
  case s4 =>
    intro W hB K hK
    simp only [tellK, Act.put, List.setIfInBounds_toArray, List.set_cons_zero, List.set_cons_succ] at hK ⊢
    refine tell_do rfl ?_
    obtain ⟨c0, c1, c2, c3, c4, c5⟩ := cells6 (HP.below hB); have q0 := (HQ.below hB).cell 0 _ rfl; have q1 := (HQ.below hB).cell 1 _ rfl; have r0 := (HR.below hB).cell 0 _ rfl; have r1 := (HR.below hB).cell 1 _ rfl
    go_simp
    exact hK _ (Below.refl _ _)
  case s5 =>
    intro W hB K hK
    simp only [tellK, Act.put, List.setIfInBounds_toArray, List.set_cons_zero, List.set_cons_succ] at hK ⊢
    refine tell_do rfl ?_
    obtain ⟨c0, c1, c2, c3, c4, c5⟩ := cells6 (HP.below hB); have q0 := (HQ.below hB).cell 0 _ rfl; have q1 := (HQ.below hB).cell 1 _ rfl; have r0 := (HR.below hB).cell 0 _ rfl; have r1 := (HR.below hB).cell 1 _ rfl
    go_simp
    exact hK _ (Below.refl _ _)
  case s6 =>
    intro W hB K hK
    simp only [tellK, Act.put, List.setIfInBounds_toArray, List.set_cons_zero, List.set_cons_succ] at hK ⊢
    refine tell_do rfl ?_
    obtain ⟨c0, c1, c2, c3, c4, c5⟩ := cells6 (HP.below hB); have q0 := (HQ.below hB).cell 0 _ rfl; have q1 := (HQ.below hB).cell 1 _ rfl; have r0 := (HR.below hB).cell 0 _ rfl; have r1 := (HR.below hB).cell 1 _ rfl
    go_simp
    go_at_call 127; refine (rXor_c _ _ a b _ (ha.below hB) (hb.below hB) hx1.out).mono ?_; rintro e w6 ⟨z, rfl, sZ, h6⟩; exact hK _ _ sZ.rk h6
  case s7 =>
    intro W hB K hK
    simp only [tellK, Act.put, List.setIfInBounds_toArray, List.set_cons_zero, List.set_cons_succ] at hK ⊢
    refine tell_do rfl ?_
    obtain ⟨c0, c1, c2, c3, c4, c5⟩ := cells6 (HP.below hB); have q0 := (HQ.below hB).cell 0 _ rfl; have q1 := (HQ.below hB).cell 1 _ rfl; have r0 := (HR.below hB).cell 0 _ rfl; have r1 := (HR.below hB).cell 1 _ rfl
    go_simp
    exact hK _ (Below.refl _ _)
  case s8 =>
    intro W hB K hK
    simp only [tellK, Act.put, List.setIfInBounds_toArray, List.set_cons_zero, List.set_cons_succ] at hK ⊢
    refine tell_do rfl ?_
    obtain ⟨c0, c1, c2, c3, c4, c5⟩ := cells6 (HP.below hB); have q0 := (HQ.below hB).cell 0 _ rfl; have q1 := (HQ.below hB).cell 1 _ rfl; have r0 := (HR.below hB).cell 0 _ rfl; have r1 := (HR.below hB).cell 1 _ rfl
    go_simp
    exact hK _ (Below.refl _ _)
  case s9 =>
    intro W hB K hK
    simp only [tellK, Act.put, List.setIfInBounds_toArray, List.set_cons_zero, List.set_cons_succ] at hK ⊢
    refine tell_do rfl ?_
    obtain ⟨c0, c1, c2, c3, c4, c5⟩ := cells6 (HP.below hB); have q0 := (HQ.below hB).cell 0 _ rfl; have q1 := (HQ.below hB).cell 1 _ rfl; have r0 := (HR.below hB).cell 0 _ rfl; have r1 := (HR.below hB).cell 1 _ rfl
    go_simp
    exact hK _ (Below.refl _ _)
  case s10 =>
    intro W hB K hK
    simp only [tellK, Act.put, List.setIfInBounds_toArray, List.set_cons_zero, List.set_cons_succ] at hK ⊢
    refine tell_do rfl ?_
    obtain ⟨c0, c1, c2, c3, c4, c5⟩ := cells6 (HP.below hB); have q0 := (HQ.below hB).cell 0 _ rfl; have q1 := (HQ.below hB).cell 1 _ rfl; have r0 := (HR.below hB).cell 0 _ rfl; have r1 := (HR.below hB).cell 1 _ rfl
    go_simp
    exact hK _ (Below.refl _ _)
  case s11 =>
    intro W hB K hK
    simp only [tellK, Act.put, List.setIfInBounds_toArray, List.set_cons_zero, List.set_cons_succ] at hK ⊢
    refine tell_do rfl ?_
    obtain ⟨c0, c1, c2, c3, c4, c5⟩ := cells6 (HP.below hB); have q0 := (HQ.below hB).cell 0 _ rfl; have q1 := (HQ.below hB).cell 1 _ rfl; have r0 := (HR.below hB).cell 0 _ rfl; have r1 := (HR.below hB).cell 1 _ rfl
    go_simp
    exact hK _ (Below.refl _ _)
  case s12 =>
    intro W hB K hK
    simp only [tellK, Act.put, List.setIfInBounds_toArray, List.set_cons_zero, List.set_cons_succ] at hK ⊢
    refine tell_do rfl ?_
    obtain ⟨c0, c1, c2, c3, c4, c5⟩ := cells6 (HP.below hB); have q0 := (HQ.below hB).cell 0 _ rfl; have q1 := (HQ.below hB).cell 1 _ rfl; have r0 := (HR.below hB).cell 0 _ rfl; have r1 := (HR.below hB).cell 1 _ rfl
    go_simp
    exact hK _ (Below.refl _ _)
  case s13 =>
    intro W hB K hK
    simp only [tellK, Act.put, List.setIfInBounds_toArray, List.set_cons_zero, List.set_cons_succ] at hK ⊢
    refine tell_do rfl ?_
    obtain ⟨c0, c1, c2, c3, c4, c5⟩ := cells6 (HP.below hB); have q0 := (HQ.below hB).cell 0 _ rfl; have q1 := (HQ.below hB).cell 1 _ rfl; have r0 := (HR.below hB).cell 0 _ rfl; have r1 := (HR.below hB).cell 1 _ rfl
    go_simp
    exact hK _ (Below.refl _ _)
  case s14 =>
    intro W hB K hK
    simp only [tellK, Act.put, List.setIfInBounds_toArray, List.set_cons_zero, List.set_cons_succ] at hK ⊢
    refine tell_do rfl ?_
    obtain ⟨c0, c1, c2, c3, c4, c5⟩ := cells6 (HP.below hB); have q0 := (HQ.below hB).cell 0 _ rfl; have q1 := (HQ.below hB).cell 1 _ rfl; have r0 := (HR.below hB).cell 0 _ rfl; have r1 := (HR.below hB).cell 1 _ rfl
    go_simp
    exact hK _ (Below.refl _ _)
  case s15 =>
    intro W hB K hK
    simp only [tellK, Act.put, List.setIfInBounds_toArray, List.set_cons_zero, List.set_cons_succ] at hK ⊢
    refine tell_do rfl ?_
    obtain ⟨c0, c1, c2, c3, c4, c5⟩ := cells6 (HP.below hB); have q0 := (HQ.below hB).cell 0 _ rfl; have q1 := (HQ.below hB).cell 1 _ rfl; have r0 := (HR.below hB).cell 0 _ rfl; have r1 := (HR.below hB).cell 1 _ rfl
    go_simp
    go_at_call 127; refine (rXor_c _ _ (s.take n) (t.take n) _ (hsn.below hB) (htn.below hB) hx2.out).mono ?_; rintro e w6 ⟨z, rfl, sZ, h6⟩; exact hK _ _ sZ.rk h6
  case s16 =>
    intro W hB v6 h6 v15 h15 K hK
    replace h6 : Rb W v6 (F.xorL a b) := h6
    replace h15 : Rb W v15 (F.xorL (s.take n) (t.take n)) := h15
    simp only [tellK, Act.put, List.setIfInBounds_toArray, List.set_cons_zero, List.set_cons_succ] at hK ⊢
    refine tell_do rfl ?_
    obtain ⟨c0, c1, c2, c3, c4, c5⟩ := cells6 (HP.below hB); have q0 := (HQ.below hB).cell 0 _ rfl; have q1 := (HQ.below hB).cell 1 _ rfl; have r0 := (HR.below hB).cell 0 _ rfl; have r1 := (HR.below hB).cell 1 _ rfl
    go_simp
    go_at_call 126; refine (dDeal_ok bF p h _ _ (F.xorL a b) (F.xorL (s.take n) (t.take n)) _ (hF.below hB) h6 h15 hx3.out hx4.out).mono ?_; rintro e w6 ⟨g, vs, rfl, hR, h6⟩; rw [hNN.out] at hR ⊢; exact hK _ _ ⟨g, vs, rfl, hR.lower hB⟩ h6
  case s17 =>
    intro W hB v16 h16 K hK
    simp only [tellK, Act.put, List.setIfInBounds_toArray, List.set_cons_zero, List.set_cons_succ] at hK ⊢
    refine tell_do rfl ?_
    obtain ⟨c0, c1, c2, c3, c4, c5⟩ := cells6 (HP.below hB); have q0 := (HQ.below hB).cell 0 _ rfl; have q1 := (HQ.below hB).cell 1 _ rfl; have r0 := (HR.below hB).cell 0 _ rfl; have r1 := (HR.below hB).cell 1 _ rfl
    obtain ⟨g, vs, rfl, hR⟩ := h16; go_simp; exact hK _ _ ⟨g, vs, rfl, hR⟩ (Below.refl _ _)
  case s18 =>
    intro W hB v17 h17 K hK
    simp only [tellK, Act.put, List.setIfInBounds_toArray, List.set_cons_zero, List.set_cons_succ] at hK ⊢
    refine tell_do rfl ?_
    obtain ⟨c0, c1, c2, c3, c4, c5⟩ := cells6 (HP.below hB); have q0 := (HQ.below hB).cell 0 _ rfl; have q1 := (HQ.below hB).cell 1 _ rfl; have r0 := (HR.below hB).cell 0 _ rfl; have r1 := (HR.below hB).cell 1 _ rfl
    obtain ⟨g, vs, rfl, hR⟩ := h17; go_simp; exact hK _ _ ⟨g, vs, rfl, hR⟩ (Below.refl _ _)
  case s19 =>
    intro W hB v17 h17 K hK
    simp only [tellK, Act.put, List.setIfInBounds_toArray, List.set_cons_zero, List.set_cons_succ] at hK ⊢
    refine tell_do rfl ?_
    obtain ⟨c0, c1, c2, c3, c4, c5⟩ := cells6 (HP.below hB); have q0 := (HQ.below hB).cell 0 _ rfl; have q1 := (HQ.below hB).cell 1 _ rfl; have r0 := (HR.below hB).cell 0 _ rfl; have r1 := (HR.below hB).cell 1 _ rfl
    obtain ⟨g, vs, rfl, hR⟩ := h17; go_simp; exact hK _ (Below.refl _ _)
  case s20 =>
    intro W hB v18 h18 K hK
    simp only [tellK, Act.put, List.setIfInBounds_toArray, List.set_cons_zero, List.set_cons_succ] at hK ⊢
    refine tell_do rfl ?_
    obtain ⟨c0, c1, c2, c3, c4, c5⟩ := cells6 (HP.below hB); have q0 := (HQ.below hB).cell 0 _ rfl; have q1 := (HQ.below hB).cell 1 _ rfl; have r0 := (HR.below hB).cell 0 _ rfl; have r1 := (HR.below hB).cell 1 _ rfl
    obtain ⟨g, vs, rfl, hR⟩ := h18; go_simp; exact hK _ _ ⟨g, vs, rfl, hR⟩ (Below.refl _ _)
  case s21 =>
    intro W hB K hK
    simp only [tellK, Act.put, List.setIfInBounds_toArray, List.set_cons_zero, List.set_cons_succ] at hK ⊢
    refine tell_do rfl ?_
    obtain ⟨c0, c1, c2, c3, c4, c5⟩ := cells6 (HP.below hB); have q0 := (HQ.below hB).cell 0 _ rfl; have q1 := (HQ.below hB).cell 1 _ rfl; have r0 := (HR.below hB).cell 0 _ rfl; have r1 := (HR.below hB).cell 1 _ rfl
    go_simp
    exact hK _ (Below.refl _ _)
  case hQ =>
    intro W hB v6 h6 v15 h15 v16 h16 v17 h17 v18 h18 v20 h20
    replace h6 : Rb W v6 (F.xorL a b) := h6
    replace h15 : Rb W v15 (F.xorL (s.take n) (t.take n)) := h15
    simp only [tellGo, sayAt, List.getD_cons_zero, List.getD_cons_succ, Act.put, List.setIfInBounds_toArray, List.set_cons_zero, List.set_cons_succ]
    obtain ⟨g3, vs3, rfl, hR3⟩ := h20
    replace hR1 := hR1.below hB
    replace hR2 := hR2.below hB
    have HP := HP.below hB
    have hB9 := bt_ hB9 hB
    clear h6 h15 h16 h17 h18 hB
    obtain ⟨c0, c1, c2, c3, c4, c5⟩ := cells6 HP
    go_wp2_with fail
    go_loopw [15, 132] (fun _ i wr => ∃ k : Nat, k ≤ N ∧ i = .int .i64 k ∧ Below W.heap.size W wr) (fun _ i _ => N - (intOf i).toNat)
    case atStart => exact ⟨0, by omega, rfl, Below.refl _ _⟩
    case round =>
      obtain ⟨k, hk, rfl, hB⟩ := hrel
      replace hR1 := hR1.below hB
      replace hR2 := hR2.below hB
      replace hR3 := hR3.below hB
      replace hB9 := bt_ hB9 hB
      by_cases hlt : k < N
      · have hk2 := hlt
        have hki : (k : Int) < (N : Int) := by omega
        have hu1 := (hR1.own k hk2).rk
        have hu2 := (hR2.own k hk2).rk
        have hu3 := (hR3.own k hk2).rk
        rw [hsum.out] at hu3
        have hlD : Hid ((shs p a s k).length ≤ 1000000) := Lib.hid (by rw [hlen1.out]; have := hS9.out; omega)
        have tl : (((shs p a s k).length : Int) != ((shs p b t k).length : Int)) = false := by rw [hlen1.out, hlen2.out]; simp
        generalize hv1 : vs1 k = u1 at *
        generalize hv2 : vs2 k = u2 at *
        generalize hv3 : vs3 k = u3 at *
        generalize shs p a s k = D1 at *
        generalize shs p b t k = D2 at *
        obtain ⟨A1, m1, rfl⟩ := rk_form hu1
        obtain ⟨A2, m2, rfl⟩ := rk_form hu2
        replace hv1 := Lib.hid hv1
        replace hv2 := Lib.hid hv2
        replace hv3 := Lib.hid hv3
        have hBr := hB
        clear hB HP c0 c1 c2 c3 c4 c5
        go_wp2_with fail
        refine wp_region_tell [.v (.slice (some ⟨g3, 0, none⟩) N N), .v (.int .i64 (k : Int)), .v (.pointer (some ⟨g3, k, none⟩)), .v (u3), .v (.slice (some ⟨g1, 0, none⟩) N N), .v (.int .i64 (k : Int)), .v (.pointer (some ⟨g1, k, none⟩)), .v (.slice A1 D1.length m1), .v (.slice (some ⟨g2, 0, none⟩) N N), .v (.int .i64 (k : Int)), .v (.pointer (some ⟨g2, k, none⟩)), .v (.slice A2 D2.length m2), .p (isB (F.xorL D1 D2)), .v (.bool true), .v (.bool false), .v (.bool false), .v (.slice (some ⟨g1, 0, none⟩) N N), .v (.int .i64 (k : Int)), .v (.pointer (some ⟨g1, k, none⟩)), .v (.slice A1 D1.length m1), .v (.int .i64 (D1.length : Int)), .v (.slice (some ⟨g2, 0, none⟩) N N), .v (.int .i64 (k : Int)), .v (.pointer (some ⟨g2, k, none⟩)), .v (.slice A2 D2.length m2), .v (.int .i64 (D2.length : Int)), .v (.bool false), .v (.bool false)] [([], none), ([], none), ([(0, some 135), (1, some 136)], none), ([(2, some 137)], none), ([], none), ([], none), ([(4, some 139), (5, some 140)], none), ([(6, some 141)], none), ([], none), ([], none), ([(8, some 143), (9, some 144)], none), ([(10, some 145)], none), ([(7, some 142), (11, some 146)], none), ([(3, some 138), (12, some 147)], none), ([(13, some 148)], none), ([(14, some 149)], none), ([(15, some 150)], some (some 150, false)), ([(15, some 150)], some (some 150, false)), ([(15, some 150), (16, some 151), (17, some 152)], some (some 150, false)), ([(15, some 150), (18, some 153)], some (some 150, false)), ([(15, some 150), (19, some 154)], some (some 150, false)), ([(15, some 150)], some (some 150, false)), ([(15, some 150)], some (some 150, false)), ([(15, some 150), (21, some 156), (22, some 157)], some (some 150, false)), ([(15, some 150), (23, some 158)], some (some 150, false)), ([(15, some 150), (24, some 159)], some (some 150, false)), ([(15, some 150), (20, some 155), (25, some 160)], some (some 150, false)), ([(15, some 150), (26, some 161)], none)] [(0, some 135), (1, some 136), (2, some 137), (3, some 138), (4, some 139), (5, some 140), (6, some 141), (7, some 142), (8, some 143), (9, some 144), (10, some 145), (11, some 146), (12, some 147), (13, some 148), (14, some 149), (15, some 150), (16, some 151), (17, some 152), (18, some 153), (19, some 154), (20, some 155), (21, some 156), (22, some 157), (23, some 158), (24, some 159), (25, some 160), (26, some 161), (27, some 162)] (by kernel_rfl) (by kernel_rfl) (by kernel_rfl) (by kernel_rfl) (by exact ⟨trivial, trivial, trivial, trivial, trivial, trivial, trivial, trivial, trivial, trivial, trivial, trivial, last_B _, trivial, trivial, trivial, trivial, trivial, trivial, trivial, trivial, trivial, trivial, trivial, trivial, trivial, trivial, trivial, trivial⟩) ⟨?s0, ?s1, ?s2, ?s3, ?s4, ?s5, ?s6, ?s7, ?s8, ?s9, ?s10, ?s11, ?s12, ?s13, ?s14, ?s15, ?s16, ?s17, ?s18, ?s19, ?s20, ?s21, ?s22, ?s23, ?s24, ?s25, ?s26, ?s27, trivial⟩ ?hQ
        case s0 =>
          intro W hB K hK
          simp only [tellK, Act.put, List.setIfInBounds_toArray, List.set_cons_zero, List.set_cons_succ] at hK ⊢
          refine tell_do rfl ?_
          have z1 := (hR1.below hB).cell k hk2; have z2 := (hR2.below hB).cell k hk2; have z3 := (hR3.below hB).cell k hk2; rw [hv1.out] at z1; rw [hv2.out] at z2; rw [hv3.out] at z3
          go_simp
          exact hK _ (Below.refl _ _)
        case s1 =>
          intro W hB K hK
          simp only [tellK, Act.put, List.setIfInBounds_toArray, List.set_cons_zero, List.set_cons_succ] at hK ⊢
          refine tell_do rfl ?_
          have z1 := (hR1.below hB).cell k hk2; have z2 := (hR2.below hB).cell k hk2; have z3 := (hR3.below hB).cell k hk2; rw [hv1.out] at z1; rw [hv2.out] at z2; rw [hv3.out] at z3
          go_simp
          exact hK _ (Below.refl _ _)
        case s2 =>
          intro W hB K hK
          simp only [tellK, Act.put, List.setIfInBounds_toArray, List.set_cons_zero, List.set_cons_succ] at hK ⊢
          refine tell_do rfl ?_
          have z1 := (hR1.below hB).cell k hk2; have z2 := (hR2.below hB).cell k hk2; have z3 := (hR3.below hB).cell k hk2; rw [hv1.out] at z1; rw [hv2.out] at z2; rw [hv3.out] at z3
          go_simp
          exact hK _ (Below.refl _ _)
        case s3 =>
          intro W hB K hK
          simp only [tellK, Act.put, List.setIfInBounds_toArray, List.set_cons_zero, List.set_cons_succ] at hK ⊢
          refine tell_do rfl ?_
          have z1 := (hR1.below hB).cell k hk2; have z2 := (hR2.below hB).cell k hk2; have z3 := (hR3.below hB).cell k hk2; rw [hv1.out] at z1; rw [hv2.out] at z2; rw [hv3.out] at z3
          go_simp
          exact hK _ (Below.refl _ _)
        case s4 =>
          intro W hB K hK
          simp only [tellK, Act.put, List.setIfInBounds_toArray, List.set_cons_zero, List.set_cons_succ] at hK ⊢
          refine tell_do rfl ?_
          have z1 := (hR1.below hB).cell k hk2; have z2 := (hR2.below hB).cell k hk2; have z3 := (hR3.below hB).cell k hk2; rw [hv1.out] at z1; rw [hv2.out] at z2; rw [hv3.out] at z3
          go_simp
          exact hK _ (Below.refl _ _)
        case s5 =>
          intro W hB K hK
          simp only [tellK, Act.put, List.setIfInBounds_toArray, List.set_cons_zero, List.set_cons_succ] at hK ⊢
          refine tell_do rfl ?_
          have z1 := (hR1.below hB).cell k hk2; have z2 := (hR2.below hB).cell k hk2; have z3 := (hR3.below hB).cell k hk2; rw [hv1.out] at z1; rw [hv2.out] at z2; rw [hv3.out] at z3
          go_simp
          exact hK _ (Below.refl _ _)
        case s6 =>
          intro W hB K hK
          simp only [tellK, Act.put, List.setIfInBounds_toArray, List.set_cons_zero, List.set_cons_succ] at hK ⊢
          refine tell_do rfl ?_
          have z1 := (hR1.below hB).cell k hk2; have z2 := (hR2.below hB).cell k hk2; have z3 := (hR3.below hB).cell k hk2; rw [hv1.out] at z1; rw [hv2.out] at z2; rw [hv3.out] at z3
          go_simp
          exact hK _ (Below.refl _ _)
        case s7 =>
          intro W hB K hK
          simp only [tellK, Act.put, List.setIfInBounds_toArray, List.set_cons_zero, List.set_cons_succ] at hK ⊢
          refine tell_do rfl ?_
          have z1 := (hR1.below hB).cell k hk2; have z2 := (hR2.below hB).cell k hk2; have z3 := (hR3.below hB).cell k hk2; rw [hv1.out] at z1; rw [hv2.out] at z2; rw [hv3.out] at z3
          go_simp
          exact hK _ (Below.refl _ _)
        case s8 =>
          intro W hB K hK
          simp only [tellK, Act.put, List.setIfInBounds_toArray, List.set_cons_zero, List.set_cons_succ] at hK ⊢
          refine tell_do rfl ?_
          have z1 := (hR1.below hB).cell k hk2; have z2 := (hR2.below hB).cell k hk2; have z3 := (hR3.below hB).cell k hk2; rw [hv1.out] at z1; rw [hv2.out] at z2; rw [hv3.out] at z3
          go_simp
          exact hK _ (Below.refl _ _)
        case s9 =>
          intro W hB K hK
          simp only [tellK, Act.put, List.setIfInBounds_toArray, List.set_cons_zero, List.set_cons_succ] at hK ⊢
          refine tell_do rfl ?_
          have z1 := (hR1.below hB).cell k hk2; have z2 := (hR2.below hB).cell k hk2; have z3 := (hR3.below hB).cell k hk2; rw [hv1.out] at z1; rw [hv2.out] at z2; rw [hv3.out] at z3
          go_simp
          exact hK _ (Below.refl _ _)
        case s10 =>
          intro W hB K hK
          simp only [tellK, Act.put, List.setIfInBounds_toArray, List.set_cons_zero, List.set_cons_succ] at hK ⊢
          refine tell_do rfl ?_
          have z1 := (hR1.below hB).cell k hk2; have z2 := (hR2.below hB).cell k hk2; have z3 := (hR3.below hB).cell k hk2; rw [hv1.out] at z1; rw [hv2.out] at z2; rw [hv3.out] at z3
          go_simp
          exact hK _ (Below.refl _ _)
        case s11 =>
          intro W hB K hK
          simp only [tellK, Act.put, List.setIfInBounds_toArray, List.set_cons_zero, List.set_cons_succ] at hK ⊢
          refine tell_do rfl ?_
          have z1 := (hR1.below hB).cell k hk2; have z2 := (hR2.below hB).cell k hk2; have z3 := (hR3.below hB).cell k hk2; rw [hv1.out] at z1; rw [hv2.out] at z2; rw [hv3.out] at z3
          go_simp
          exact hK _ (Below.refl _ _)
        case s12 =>
          intro W hB K hK
          simp only [tellK, Act.put, List.setIfInBounds_toArray, List.set_cons_zero, List.set_cons_succ] at hK ⊢
          refine tell_do rfl ?_
          have z1 := (hR1.below hB).cell k hk2; have z2 := (hR2.below hB).cell k hk2; have z3 := (hR3.below hB).cell k hk2; rw [hv1.out] at z1; rw [hv2.out] at z2; rw [hv3.out] at z3
          go_simp
          go_at_call 127; refine (rXor_c _ _ D1 D2 _ (hu1.below hB) (hu2.below hB) hlD.out).mono ?_; rintro e w6 ⟨z, rfl, sZ, h6⟩; exact hK _ _ sZ.rk h6
        case s13 =>
          intro W hB v12 h12 K hK
          replace h12 : Rb W v12 (F.xorL D1 D2) := h12
          simp only [tellK, Act.put, List.setIfInBounds_toArray, List.set_cons_zero, List.set_cons_succ] at hK ⊢
          refine tell_do rfl ?_
          have z1 := (hR1.below hB).cell k hk2; have z2 := (hR2.below hB).cell k hk2; have z3 := (hR3.below hB).cell k hk2; rw [hv1.out] at z1; rw [hv2.out] at z2; rw [hv3.out] at z3
          go_simp
          go_at_call 60; refine (rSame_c _ _ (F.xorL D1 D2) (F.xorL D1 D2) _ (hu3.below hB) h12).mono ?_; rintro e w6 ⟨rfl, h6⟩; rw [decide_eq_true (rfl : F.xorL D1 D2 = F.xorL D1 D2)]; exact hK _ h6.below
        case s14 =>
          intro W hB K hK
          simp only [tellK, Act.put, List.setIfInBounds_toArray, List.set_cons_zero, List.set_cons_succ] at hK ⊢
          refine tell_do rfl ?_
          have z1 := (hR1.below hB).cell k hk2; have z2 := (hR2.below hB).cell k hk2; have z3 := (hR3.below hB).cell k hk2; rw [hv1.out] at z1; rw [hv2.out] at z2; rw [hv3.out] at z3
          go_simp
          exact hK _ (Below.refl _ _)
        case s15 =>
          intro W hB K hK
          simp only [tellK, Act.put, List.setIfInBounds_toArray, List.set_cons_zero, List.set_cons_succ] at hK ⊢
          refine tell_do rfl ?_
          have z1 := (hR1.below hB).cell k hk2; have z2 := (hR2.below hB).cell k hk2; have z3 := (hR3.below hB).cell k hk2; rw [hv1.out] at z1; rw [hv2.out] at z2; rw [hv3.out] at z3
          go_simp
          exact hK _ (Below.refl _ _)
        case s16 =>
          intro W hB K hK
          simp only [tellK, Act.put, List.setIfInBounds_toArray, List.set_cons_zero, List.set_cons_succ] at hK ⊢
          refine tell_do rfl ?_
          have z1 := (hR1.below hB).cell k hk2; have z2 := (hR2.below hB).cell k hk2; have z3 := (hR3.below hB).cell k hk2; rw [hv1.out] at z1; rw [hv2.out] at z2; rw [hv3.out] at z3
          go_simp
          exact hK _ (Below.refl _ _)
        case s17 =>
          intro W hB K hK
          simp only [tellK, Act.put, List.setIfInBounds_toArray, List.set_cons_zero, List.set_cons_succ] at hK ⊢
          refine tell_do rfl ?_
          have z1 := (hR1.below hB).cell k hk2; have z2 := (hR2.below hB).cell k hk2; have z3 := (hR3.below hB).cell k hk2; rw [hv1.out] at z1; rw [hv2.out] at z2; rw [hv3.out] at z3
          go_simp
          exact hK _ (Below.refl _ _)
        case s18 =>
          intro W hB K hK
          simp only [tellK, Act.put, List.setIfInBounds_toArray, List.set_cons_zero, List.set_cons_succ] at hK ⊢
          refine tell_do rfl ?_
          have z1 := (hR1.below hB).cell k hk2; have z2 := (hR2.below hB).cell k hk2; have z3 := (hR3.below hB).cell k hk2; rw [hv1.out] at z1; rw [hv2.out] at z2; rw [hv3.out] at z3
          go_simp
          exact hK _ (Below.refl _ _)
        case s19 =>
          intro W hB K hK
          simp only [tellK, Act.put, List.setIfInBounds_toArray, List.set_cons_zero, List.set_cons_succ] at hK ⊢
          refine tell_do rfl ?_
          have z1 := (hR1.below hB).cell k hk2; have z2 := (hR2.below hB).cell k hk2; have z3 := (hR3.below hB).cell k hk2; rw [hv1.out] at z1; rw [hv2.out] at z2; rw [hv3.out] at z3
          go_simp
          exact hK _ (Below.refl _ _)
        case s20 =>
          intro W hB K hK
          simp only [tellK, Act.put, List.setIfInBounds_toArray, List.set_cons_zero, List.set_cons_succ] at hK ⊢
          refine tell_do rfl ?_
          have z1 := (hR1.below hB).cell k hk2; have z2 := (hR2.below hB).cell k hk2; have z3 := (hR3.below hB).cell k hk2; rw [hv1.out] at z1; rw [hv2.out] at z2; rw [hv3.out] at z3
          go_simp
          exact hK _ (Below.refl _ _)
        case s21 =>
          intro W hB K hK
          simp only [tellK, Act.put, List.setIfInBounds_toArray, List.set_cons_zero, List.set_cons_succ] at hK ⊢
          refine tell_do rfl ?_
          have z1 := (hR1.below hB).cell k hk2; have z2 := (hR2.below hB).cell k hk2; have z3 := (hR3.below hB).cell k hk2; rw [hv1.out] at z1; rw [hv2.out] at z2; rw [hv3.out] at z3
          go_simp
          exact hK _ (Below.refl _ _)
        case s22 =>
          intro W hB K hK
          simp only [tellK, Act.put, List.setIfInBounds_toArray, List.set_cons_zero, List.set_cons_succ] at hK ⊢
          refine tell_do rfl ?_
          have z1 := (hR1.below hB).cell k hk2; have z2 := (hR2.below hB).cell k hk2; have z3 := (hR3.below hB).cell k hk2; rw [hv1.out] at z1; rw [hv2.out] at z2; rw [hv3.out] at z3
          go_simp
          exact hK _ (Below.refl _ _)
        case s23 =>
          intro W hB K hK
          simp only [tellK, Act.put, List.setIfInBounds_toArray, List.set_cons_zero, List.set_cons_succ] at hK ⊢
          refine tell_do rfl ?_
          have z1 := (hR1.below hB).cell k hk2; have z2 := (hR2.below hB).cell k hk2; have z3 := (hR3.below hB).cell k hk2; rw [hv1.out] at z1; rw [hv2.out] at z2; rw [hv3.out] at z3
          go_simp
          exact hK _ (Below.refl _ _)
        case s24 =>
          intro W hB K hK
          simp only [tellK, Act.put, List.setIfInBounds_toArray, List.set_cons_zero, List.set_cons_succ] at hK ⊢
          refine tell_do rfl ?_
          have z1 := (hR1.below hB).cell k hk2; have z2 := (hR2.below hB).cell k hk2; have z3 := (hR3.below hB).cell k hk2; rw [hv1.out] at z1; rw [hv2.out] at z2; rw [hv3.out] at z3
          go_simp
          exact hK _ (Below.refl _ _)
        case s25 =>
          intro W hB K hK
          simp only [tellK, Act.put, List.setIfInBounds_toArray, List.set_cons_zero, List.set_cons_succ] at hK ⊢
          refine tell_do rfl ?_
          have z1 := (hR1.below hB).cell k hk2; have z2 := (hR2.below hB).cell k hk2; have z3 := (hR3.below hB).cell k hk2; rw [hv1.out] at z1; rw [hv2.out] at z2; rw [hv3.out] at z3
          go_simp
          exact hK _ (Below.refl _ _)
        case s26 =>
          intro W hB K hK
          simp only [tellK, Act.put, List.setIfInBounds_toArray, List.set_cons_zero, List.set_cons_succ] at hK ⊢
          refine tell_do rfl ?_
          have z1 := (hR1.below hB).cell k hk2; have z2 := (hR2.below hB).cell k hk2; have z3 := (hR3.below hB).cell k hk2; rw [hv1.out] at z1; rw [hv2.out] at z2; rw [hv3.out] at z3
          go_simp
          exact hK _ (Below.refl _ _)
        case s27 =>
          intro W hB K hK
          simp only [tellK, Act.put, List.setIfInBounds_toArray, List.set_cons_zero, List.set_cons_succ] at hK ⊢
          refine tell_do rfl ?_
          have z1 := (hR1.below hB).cell k hk2; have z2 := (hR2.below hB).cell k hk2; have z3 := (hR3.below hB).cell k hk2; rw [hv1.out] at z1; rw [hv2.out] at z2; rw [hv3.out] at z3
          go_simp
          exact hK _ (Below.refl _ _)
        case hQ =>
          intro W hB v12 h12
          replace h12 : Rb W v12 (F.xorL D1 D2) := h12
          simp only [tellGo, sayAt, List.getD_cons_zero, List.getD_cons_succ, Act.put, List.setIfInBounds_toArray, List.set_cons_zero, List.set_cons_succ]
          have hBr := bt_ hBr hB
          go_wp2
          exact ⟨⟨k + 1, by omega, by go_num, hBr⟩, by simp [intOf]; try omega⟩
      · obtain rfl : k = N := by omega
        have hB := hB9
        go_wp2_with fail
        refine (alive10 _).mono ?_
        rintro e w9 ⟨rfl, h⟩
        have hB := bt_ hB h
        clear h
        go_wp2
        go_ret
        exact ⟨rfl, hB⟩
set_option maxRecDepth 100000 in
theorem DealSums_walk (w : World) (N : Int) (hN : -9223372036854775808 ≤ N ∧ N ≤ 9223372036854775807) (T : Int) (hT : -9223372036854775808 ≤ T ∧ T ≤ 9223372036854775807) (L : Int) (hL : -9223372036854775808 ≤ L ∧ L ≤ 9223372036854775807) (W : Int) (hW : -9223372036854775808 ≤ W ∧ W ≤ 9223372036854775807) (S : Int) (hS : -9223372036854775808 ≤ S ∧ S ≤ 9223372036854775807) (R : Int) (hR : -9223372036854775808 ≤ R ∧ R ≤ 9223372036854775807) (va : Value) (a : List F) (ha : Rb w va a) (vb : Value) (b : List F) (hb : Rb w vb b) (vs : Value) (s : List F) (hs : Rb w vs s) (vt : Value) (t : List F) (ht : Rb w vt t) :
   Calls Try.prog 24 #[.agg #[.int .i64 N, .int .i64 T, .int .i64 L, .int .i64 W, .int .i64 S, .int .i64 R], .agg #[va, vb], .agg #[vs, vt]] w fun e w' => e = .returned (.bool true) ∧ Below w.heap.size w w' := by
  by_cases hLt : Lite ⟨N, T, L, W, S, R⟩
  · have hi : Pl.In ⟨N, T, L, W, S, R⟩ := ⟨hN, hT, hL, hW, hS, hR⟩
    by_cases h : (Pl.mk N T L W S R).Ok
    · by_cases h1 : a.length ≤ 60 ∧ a.length = b.length
      · obtain ⟨n, hn⟩ : ∃ n : Nat, (Pl.mk N T L W S R).T.toNat * F.nS (Pl.mk N T L W S R).L.toNat a.length = n := ⟨_, rfl⟩
        by_cases h2 : n ≤ s.length ∧ n ≤ t.length
        · exact dealSums_4 ⟨N, T, L, W, S, R⟩ va vb vs vt a b s t w ha hb hs ht hLt h h1.1 h1.2 n hn h2.1 h2.2
        · exact dealSums_3 ⟨N, T, L, W, S, R⟩ va vb vs vt a b s t w ha hb hs ht hLt h h1.1 h1.2 n hn h2
      · exact dealSums_2 ⟨N, T, L, W, S, R⟩ va vb vs vt a b s t w ha hb hs ht hLt h h1
    · exact dealSums_1 ⟨N, T, L, W, S, R⟩ va vb vs vt a b s t w ha hb hs ht hi hLt h
  · exact dealSums_0 ⟨N, T, L, W, S, R⟩ va vb vs vt a b s t w ha hb hs ht hLt
end Go.Proofs.Ytijeabhfddaoaaa
