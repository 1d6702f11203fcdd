/- The walks of the laws of layer 14 (masks): MaskMoves. -/
import Derived.Test.YtijeabhfddaoaaaL14e
import Derived.Test.YtijeabhfddaoaaaM11
import Derived.Test.YtijeabhfddaoaaaK9
namespace Go.Proofs.Ytijeabhfddaoaaa
set_option linter.unusedVariables false
open Go.RowKit Go.Proofs.YtijeabhfddaoaaaW.PrintWords Go.Proofs.Sh

set_option maxRecDepth 100000 in
set_option maxHeartbeats 3200000 in
theorem maskMoves_far (p : Pl) (hi : p.In) (dv tv y0 y1 : Value) (d tape : List F) (z0 z1 : List Int) (w : World) (hd : Rb w dv d) (ht : Rb w tv tape) (k0 : Ri w y0 z0) (k1 : Ri w y1 z1) (h : ¬ (Lite p ∧ p.Ok ∧ maE p d.length z0 = 0 ∧ maE p d.length z1 = 0 ∧ p.T + p.L - 1 ≤ (tape.length : Int))) :
   Calls Try.prog 34 #[planV p, .agg #[dv, tv], .agg #[y0, y1]] w fun e w' => e = .returned (.bool true) ∧ Below w.heap.size w w' := by
  by_cases hL : Lite p
  · have hL2 := Lib.hid (decide_eq_true hL)
    by_cases hok : p.Ok
    · have hW : Hid (0 ≤ p.T + p.L - 1 ∧ p.T + p.L - 1 ≤ 1000000) := Lib.hid (by have := hok.t; have := hok.l; have := hok.tl; have := hok.wn; have := hok.nl; omega)
      by_cases e0 : maE p d.length z0 = 0
      · by_cases e1 : maE p d.length z1 = 0
        · have hw : Hid ((tape.length : Int) < p.T + p.L - 1) := Lib.hid (by
            have : ¬ p.T + p.L - 1 ≤ (tape.length : Int) := fun e => h ⟨hL, hok, e0, e1, e⟩
            omega)
          have tw : decide ((tape.length : Int) < p.T + p.L - 1) = true := decide_eq_true hw.out
          replace e0 := Lib.hid e0
          replace e1 := Lib.hid e1
          replace hok := Lib.hid hok
          clear h
          have HP := ((Blk.new w (planC p) 33).alloc (.cells #[dv, tv] 103)).alloc (.cells #[y0, y1] 138)
          have HQ := (Blk.new' (w.alloc (.cells (planC p) 33)) #[dv, tv] 103 (World.size_alloc w _)).alloc (.cells #[y0, y1] 138)
          have HR := Blk.new' ((w.alloc (.cells (planC p) 33)).alloc (.cells #[dv, tv] 103)) #[y0, y1] 138 (by rw [World.size_alloc, World.size_alloc])
          have hB := below_alloc (below_alloc (below_alloc (Below.refl w.heap.size w) (.cells (planC p) 33)) (.cells #[dv, tv] 103)) (.cells #[y0, y1] 138)
          replace hd := hd.below hB
          replace ht := ht.below hB
          replace k0 := k0.below hB
          replace k1 := k1.below hB
          obtain ⟨Ad, cd, rfl⟩ := rk_form hd
          obtain ⟨At, ct, rfl⟩ := rk_form ht
          obtain ⟨A0, n0, rfl⟩ := rk_form k0
          obtain ⟨A1, n1, rfl⟩ := rk_form k1
          have hld := kb_len (rk_C hd)
          have hlt := kb_len (rk_C ht)
          have hl0 := ri_len (rk_C k0)
          have hl1 := ri_len (rk_C k1)
          have hL := hL2
          go_enter Try.func34, Try.ntmps34
          go_wp2_with fail
          generalize ((w.alloc (.cells (planC p) 33)).alloc (.cells #[.slice Ad d.length cd, .slice At tape.length ct] 103)).alloc (.cells #[.slice A0 z0.length n0, .slice A1 z1.length n1] 138) = w1 at *
          have q0 := HQ.cell 0 _ rfl
          have q1 := HQ.cell 1 _ rfl
          go_quiet (fail)
          replace HP := HP.below (pw_below_drewN (Below.refl _ _) nq)
          replace HR := HR.below (pw_below_drewN (Below.refl _ _) nq)
          replace hd := hd.drewN nq
          replace ht := ht.drewN nq
          replace k0 := k0.drewN nq
          replace k1 := k1.drewN nq
          replace hB := pw_below_drewN hB nq
          clear q0 q1 HQ
          generalize w1.drewN nq = w1' at *
          obtain ⟨c0, c1, c2, c3, c4, c5⟩ := cells6 HP
          have r0 := HR.cell 0 _ rfl
          have r1 := HR.cell 1 _ rfl
          go_wp2_with fail
          refine (light_c p _).mono ?_
          rintro e w2 ⟨rfl, h2⟩
          rw [hL.out]
          (try clear c0 c1 c2 c3 c4 c5 r0 r1)
          replace HP := HP.below h2
          replace HR := HR.below h2
          replace hd := hd.below h2
          replace ht := ht.below h2
          replace k0 := k0.below h2
          replace k1 := k1.below h2
          replace hB := bt_ hB h2
          obtain ⟨c0, c1, c2, c3, c4, c5⟩ := cells6 HP
          have r0 := HR.cell 0 _ rfl
          have r1 := HR.cell 1 _ rfl
          clear h2
          go_wp2_with fail
          refine (rRight_yes p hok.out _).mono ?_
          rintro e w3 ⟨rfl, h3⟩
          (try clear c0 c1 c2 c3 c4 c5 r0 r1)
          replace HP := HP.below h3
          replace HR := HR.below h3
          replace hd := hd.below h3
          replace ht := ht.below h3
          replace k0 := k0.below h3
          replace k1 := k1.below h3
          replace hB := bt_ hB h3
          obtain ⟨c0, c1, c2, c3, c4, c5⟩ := cells6 HP
          have r0 := HR.cell 0 _ rfl
          have r1 := HR.cell 1 _ rfl
          go_wp2_with fail
          refine (rCheck14_c p hok.out _ _ d z0 _ hd k0).mono ?_
          rintro e w4 ⟨rfl, h4⟩
          rw [e0.out]
          (try clear c0 c1 c2 c3 c4 c5 r0 r1)
          replace HP := HP.below h4
          replace HR := HR.below h4
          replace hd := hd.below h4
          replace ht := ht.below h4
          replace k0 := k0.below h4
          replace k1 := k1.below h4
          replace hB := bt_ hB h4
          obtain ⟨c0, c1, c2, c3, c4, c5⟩ := cells6 HP
          have r0 := HR.cell 0 _ rfl
          have r1 := HR.cell 1 _ rfl
          go_wp2_with fail
          refine (rCheck14_c p hok.out _ _ d z1 _ hd k1).mono ?_
          rintro e w5 ⟨rfl, h5⟩
          rw [e1.out]
          (try clear c0 c1 c2 c3 c4 c5 r0 r1)
          replace HP := HP.below h5
          replace HR := HR.below h5
          replace hd := hd.below h5
          replace ht := ht.below h5
          replace k0 := k0.below h5
          replace k1 := k1.below h5
          replace hB := bt_ hB h5
          obtain ⟨c0, c1, c2, c3, c4, c5⟩ := cells6 HP
          have r0 := HR.cell 0 _ rfl
          have r1 := HR.cell 1 _ rfl
          go_wp2_with fail
          refine (rWidth13_c p hok.out _).mono ?_
          rintro e w6 ⟨rfl, h6⟩
          have hB := bt_ hB h6
          go_wp2_with fail
          refine (alive14 _).mono ?_
          rintro e w9 ⟨rfl, h⟩
          have hB := bt_ hB h
          clear h
          go_wp2
          go_ret
          exact ⟨rfl, hB⟩
        · have t9 : (maE p d.length z1 != 0) = true := bne_iff_ne.2 e1
          replace e0 := Lib.hid e0
          replace e1 := Lib.hid e1
          replace hok := Lib.hid hok
          clear h
          have HP := ((Blk.new w (planC p) 33).alloc (.cells #[dv, tv] 103)).alloc (.cells #[y0, y1] 138)
          have HQ := (Blk.new' (w.alloc (.cells (planC p) 33)) #[dv, tv] 103 (World.size_alloc w _)).alloc (.cells #[y0, y1] 138)
          have HR := Blk.new' ((w.alloc (.cells (planC p) 33)).alloc (.cells #[dv, tv] 103)) #[y0, y1] 138 (by rw [World.size_alloc, World.size_alloc])
          have hB := below_alloc (below_alloc (below_alloc (Below.refl w.heap.size w) (.cells (planC p) 33)) (.cells #[dv, tv] 103)) (.cells #[y0, y1] 138)
          replace hd := hd.below hB
          replace ht := ht.below hB
          replace k0 := k0.below hB
          replace k1 := k1.below hB
          obtain ⟨Ad, cd, rfl⟩ := rk_form hd
          obtain ⟨At, ct, rfl⟩ := rk_form ht
          obtain ⟨A0, n0, rfl⟩ := rk_form k0
          obtain ⟨A1, n1, rfl⟩ := rk_form k1
          have hld := kb_len (rk_C hd)
          have hlt := kb_len (rk_C ht)
          have hl0 := ri_len (rk_C k0)
          have hl1 := ri_len (rk_C k1)
          have hL := hL2
          go_enter Try.func34, Try.ntmps34
          go_wp2_with fail
          generalize ((w.alloc (.cells (planC p) 33)).alloc (.cells #[.slice Ad d.length cd, .slice At tape.length ct] 103)).alloc (.cells #[.slice A0 z0.length n0, .slice A1 z1.length n1] 138) = w1 at *
          have q0 := HQ.cell 0 _ rfl
          have q1 := HQ.cell 1 _ rfl
          go_quiet (fail)
          replace HP := HP.below (pw_below_drewN (Below.refl _ _) nq)
          replace HR := HR.below (pw_below_drewN (Below.refl _ _) nq)
          replace hd := hd.drewN nq
          replace ht := ht.drewN nq
          replace k0 := k0.drewN nq
          replace k1 := k1.drewN nq
          replace hB := pw_below_drewN hB nq
          clear q0 q1 HQ
          generalize w1.drewN nq = w1' at *
          obtain ⟨c0, c1, c2, c3, c4, c5⟩ := cells6 HP
          have r0 := HR.cell 0 _ rfl
          have r1 := HR.cell 1 _ rfl
          go_wp2_with fail
          refine (light_c p _).mono ?_
          rintro e w2 ⟨rfl, h2⟩
          rw [hL.out]
          (try clear c0 c1 c2 c3 c4 c5 r0 r1)
          replace HP := HP.below h2
          replace HR := HR.below h2
          replace hd := hd.below h2
          replace ht := ht.below h2
          replace k0 := k0.below h2
          replace k1 := k1.below h2
          replace hB := bt_ hB h2
          obtain ⟨c0, c1, c2, c3, c4, c5⟩ := cells6 HP
          have r0 := HR.cell 0 _ rfl
          have r1 := HR.cell 1 _ rfl
          clear h2
          go_wp2_with fail
          refine (rRight_yes p hok.out _).mono ?_
          rintro e w3 ⟨rfl, h3⟩
          (try clear c0 c1 c2 c3 c4 c5 r0 r1)
          replace HP := HP.below h3
          replace HR := HR.below h3
          replace hd := hd.below h3
          replace ht := ht.below h3
          replace k0 := k0.below h3
          replace k1 := k1.below h3
          replace hB := bt_ hB h3
          obtain ⟨c0, c1, c2, c3, c4, c5⟩ := cells6 HP
          have r0 := HR.cell 0 _ rfl
          have r1 := HR.cell 1 _ rfl
          go_wp2_with fail
          refine (rCheck14_c p hok.out _ _ d z0 _ hd k0).mono ?_
          rintro e w4 ⟨rfl, h4⟩
          rw [e0.out]
          (try clear c0 c1 c2 c3 c4 c5 r0 r1)
          replace HP := HP.below h4
          replace HR := HR.below h4
          replace hd := hd.below h4
          replace ht := ht.below h4
          replace k0 := k0.below h4
          replace k1 := k1.below h4
          replace hB := bt_ hB h4
          obtain ⟨c0, c1, c2, c3, c4, c5⟩ := cells6 HP
          have r0 := HR.cell 0 _ rfl
          have r1 := HR.cell 1 _ rfl
          go_wp2_with fail
          refine (rCheck14_c p hok.out _ _ d z1 _ hd k1).mono ?_
          rintro e w5 ⟨rfl, h5⟩
          have hB := bt_ hB h5
          go_wp2_with fail
          refine (alive14 _).mono ?_
          rintro e w9 ⟨rfl, h⟩
          have hB := bt_ hB h
          clear h
          go_wp2
          go_ret
          exact ⟨rfl, hB⟩
      · have t9 : (maE p d.length z0 != 0) = true := bne_iff_ne.2 e0
        replace e0 := Lib.hid e0
        replace hok := Lib.hid hok
        clear h
        have HP := ((Blk.new w (planC p) 33).alloc (.cells #[dv, tv] 103)).alloc (.cells #[y0, y1] 138)
        have HQ := (Blk.new' (w.alloc (.cells (planC p) 33)) #[dv, tv] 103 (World.size_alloc w _)).alloc (.cells #[y0, y1] 138)
        have HR := Blk.new' ((w.alloc (.cells (planC p) 33)).alloc (.cells #[dv, tv] 103)) #[y0, y1] 138 (by rw [World.size_alloc, World.size_alloc])
        have hB := below_alloc (below_alloc (below_alloc (Below.refl w.heap.size w) (.cells (planC p) 33)) (.cells #[dv, tv] 103)) (.cells #[y0, y1] 138)
        replace hd := hd.below hB
        replace ht := ht.below hB
        replace k0 := k0.below hB
        replace k1 := k1.below hB
        obtain ⟨Ad, cd, rfl⟩ := rk_form hd
        obtain ⟨At, ct, rfl⟩ := rk_form ht
        obtain ⟨A0, n0, rfl⟩ := rk_form k0
        obtain ⟨A1, n1, rfl⟩ := rk_form k1
        have hld := kb_len (rk_C hd)
        have hlt := kb_len (rk_C ht)
        have hl0 := ri_len (rk_C k0)
        have hl1 := ri_len (rk_C k1)
        have hL := hL2
        go_enter Try.func34, Try.ntmps34
        go_wp2_with fail
        generalize ((w.alloc (.cells (planC p) 33)).alloc (.cells #[.slice Ad d.length cd, .slice At tape.length ct] 103)).alloc (.cells #[.slice A0 z0.length n0, .slice A1 z1.length n1] 138) = w1 at *
        have q0 := HQ.cell 0 _ rfl
        have q1 := HQ.cell 1 _ rfl
        go_quiet (fail)
        replace HP := HP.below (pw_below_drewN (Below.refl _ _) nq)
        replace HR := HR.below (pw_below_drewN (Below.refl _ _) nq)
        replace hd := hd.drewN nq
        replace ht := ht.drewN nq
        replace k0 := k0.drewN nq
        replace k1 := k1.drewN nq
        replace hB := pw_below_drewN hB nq
        clear q0 q1 HQ
        generalize w1.drewN nq = w1' at *
        obtain ⟨c0, c1, c2, c3, c4, c5⟩ := cells6 HP
        have r0 := HR.cell 0 _ rfl
        have r1 := HR.cell 1 _ rfl
        go_wp2_with fail
        refine (light_c p _).mono ?_
        rintro e w2 ⟨rfl, h2⟩
        rw [hL.out]
        (try clear c0 c1 c2 c3 c4 c5 r0 r1)
        replace HP := HP.below h2
        replace HR := HR.below h2
        replace hd := hd.below h2
        replace ht := ht.below h2
        replace k0 := k0.below h2
        replace k1 := k1.below h2
        replace hB := bt_ hB h2
        obtain ⟨c0, c1, c2, c3, c4, c5⟩ := cells6 HP
        have r0 := HR.cell 0 _ rfl
        have r1 := HR.cell 1 _ rfl
        clear h2
        go_wp2_with fail
        refine (rRight_yes p hok.out _).mono ?_
        rintro e w3 ⟨rfl, h3⟩
        (try clear c0 c1 c2 c3 c4 c5 r0 r1)
        replace HP := HP.below h3
        replace HR := HR.below h3
        replace hd := hd.below h3
        replace ht := ht.below h3
        replace k0 := k0.below h3
        replace k1 := k1.below h3
        replace hB := bt_ hB h3
        obtain ⟨c0, c1, c2, c3, c4, c5⟩ := cells6 HP
        have r0 := HR.cell 0 _ rfl
        have r1 := HR.cell 1 _ rfl
        go_wp2_with fail
        refine (rCheck14_c p hok.out _ _ d z0 _ hd k0).mono ?_
        rintro e w4 ⟨rfl, h4⟩
        have hB := bt_ hB h4
        go_wp2_with fail
        refine (alive14 _).mono ?_
        rintro e w9 ⟨rfl, h⟩
        have hB := bt_ hB h
        clear h
        go_wp2
        go_ret
        exact ⟨rfl, hB⟩
    · clear h
      have HP := ((Blk.new w (planC p) 33).alloc (.cells #[dv, tv] 103)).alloc (.cells #[y0, y1] 138)
      have HQ := (Blk.new' (w.alloc (.cells (planC p) 33)) #[dv, tv] 103 (World.size_alloc w _)).alloc (.cells #[y0, y1] 138)
      have HR := Blk.new' ((w.alloc (.cells (planC p) 33)).alloc (.cells #[dv, tv] 103)) #[y0, y1] 138 (by rw [World.size_alloc, World.size_alloc])
      have hB := below_alloc (below_alloc (below_alloc (Below.refl w.heap.size w) (.cells (planC p) 33)) (.cells #[dv, tv] 103)) (.cells #[y0, y1] 138)
      replace hd := hd.below hB
      replace ht := ht.below hB
      replace k0 := k0.below hB
      replace k1 := k1.below hB
      obtain ⟨Ad, cd, rfl⟩ := rk_form hd
      obtain ⟨At, ct, rfl⟩ := rk_form ht
      obtain ⟨A0, n0, rfl⟩ := rk_form k0
      obtain ⟨A1, n1, rfl⟩ := rk_form k1
      have hld := kb_len (rk_C hd)
      have hlt := kb_len (rk_C ht)
      have hl0 := ri_len (rk_C k0)
      have hl1 := ri_len (rk_C k1)
      have hL := hL2
      go_enter Try.func34, Try.ntmps34
      go_wp2_with fail
      generalize ((w.alloc (.cells (planC p) 33)).alloc (.cells #[.slice Ad d.length cd, .slice At tape.length ct] 103)).alloc (.cells #[.slice A0 z0.length n0, .slice A1 z1.length n1] 138) = w1 at *
      have q0 := HQ.cell 0 _ rfl
      have q1 := HQ.cell 1 _ rfl
      go_quiet (fail)
      replace HP := HP.below (pw_below_drewN (Below.refl _ _) nq)
      replace HR := HR.below (pw_below_drewN (Below.refl _ _) nq)
      replace hd := hd.drewN nq
      replace ht := ht.drewN nq
      replace k0 := k0.drewN nq
      replace k1 := k1.drewN nq
      replace hB := pw_below_drewN hB nq
      clear q0 q1 HQ
      generalize w1.drewN nq = w1' at *
      obtain ⟨c0, c1, c2, c3, c4, c5⟩ := cells6 HP
      have r0 := HR.cell 0 _ rfl
      have r1 := HR.cell 1 _ rfl
      go_wp2_with fail
      refine (light_c p _).mono ?_
      rintro e w2 ⟨rfl, h2⟩
      rw [hL.out]
      (try clear c0 c1 c2 c3 c4 c5 r0 r1)
      replace HP := HP.below h2
      replace HR := HR.below h2
      replace hd := hd.below h2
      replace ht := ht.below h2
      replace k0 := k0.below h2
      replace k1 := k1.below h2
      replace hB := bt_ hB h2
      obtain ⟨c0, c1, c2, c3, c4, c5⟩ := cells6 HP
      have r0 := HR.cell 0 _ rfl
      have r1 := HR.cell 1 _ rfl
      clear h2
      go_wp2_with fail
      refine (rRight_no p hi hok _).mono ?_
      rintro e w3 ⟨rfl, h3⟩
      have hB := bt_ hB h3
      go_wp2_with fail
      refine (alive14 _).mono ?_
      rintro e w9 ⟨rfl, h⟩
      have hB := bt_ hB h
      clear h
      go_wp2
      go_ret
      exact ⟨rfl, hB⟩
  · have hL := Lib.hid (decide_eq_false hL)
    clear h
    have HP := ((Blk.new w (planC p) 33).alloc (.cells #[dv, tv] 103)).alloc (.cells #[y0, y1] 138)
    have HQ := (Blk.new' (w.alloc (.cells (planC p) 33)) #[dv, tv] 103 (World.size_alloc w _)).alloc (.cells #[y0, y1] 138)
    have HR := Blk.new' ((w.alloc (.cells (planC p) 33)).alloc (.cells #[dv, tv] 103)) #[y0, y1] 138 (by rw [World.size_alloc, World.size_alloc])
    have hB := below_alloc (below_alloc (below_alloc (Below.refl w.heap.size w) (.cells (planC p) 33)) (.cells #[dv, tv] 103)) (.cells #[y0, y1] 138)
    replace hd := hd.below hB
    replace ht := ht.below hB
    replace k0 := k0.below hB
    replace k1 := k1.below hB
    obtain ⟨Ad, cd, rfl⟩ := rk_form hd
    obtain ⟨At, ct, rfl⟩ := rk_form ht
    obtain ⟨A0, n0, rfl⟩ := rk_form k0
    obtain ⟨A1, n1, rfl⟩ := rk_form k1
    have hld := kb_len (rk_C hd)
    have hlt := kb_len (rk_C ht)
    have hl0 := ri_len (rk_C k0)
    have hl1 := ri_len (rk_C k1)
    go_enter Try.func34, Try.ntmps34
    go_wp2_with fail
    generalize ((w.alloc (.cells (planC p) 33)).alloc (.cells #[.slice Ad d.length cd, .slice At tape.length ct] 103)).alloc (.cells #[.slice A0 z0.length n0, .slice A1 z1.length n1] 138) = w1 at *
    have q0 := HQ.cell 0 _ rfl
    have q1 := HQ.cell 1 _ rfl
    go_quiet (fail)
    replace HP := HP.below (pw_below_drewN (Below.refl _ _) nq)
    replace HR := HR.below (pw_below_drewN (Below.refl _ _) nq)
    replace hd := hd.drewN nq
    replace ht := ht.drewN nq
    replace k0 := k0.drewN nq
    replace k1 := k1.drewN nq
    replace hB := pw_below_drewN hB nq
    clear q0 q1 HQ
    generalize w1.drewN nq = w1' at *
    obtain ⟨c0, c1, c2, c3, c4, c5⟩ := cells6 HP
    have r0 := HR.cell 0 _ rfl
    have r1 := HR.cell 1 _ rfl
    go_wp2_with fail
    refine (light_c p _).mono ?_
    rintro e w2 ⟨rfl, h2⟩
    rw [hL.out]
    (try clear c0 c1 c2 c3 c4 c5 r0 r1)
    replace HP := HP.below h2
    replace HR := HR.below h2
    replace hd := hd.below h2
    replace ht := ht.below h2
    replace k0 := k0.below h2
    replace k1 := k1.below h2
    replace hB := bt_ hB h2
    obtain ⟨c0, c1, c2, c3, c4, c5⟩ := cells6 HP
    have r0 := HR.cell 0 _ rfl
    have r1 := HR.cell 1 _ rfl
    clear h2
    go_wp2_with fail
    refine (alive14 _).mono ?_
    rintro e w9 ⟨rfl, h⟩
    have hB := bt_ hB h
    clear h
    go_wp2
    go_ret
    exact ⟨rfl, hB⟩
/-- A row of one byte among rows. -/
theorem one_row {w : World} {v : Value} {l : List (List F)} (h : Rbb w v l) (k : Nat) (hk : k < l.length) (x : F) (e : l.getD k [] = [x]) : ∃ A n ad B m, v = .slice (some A) l.length n ∧ w.cell? (A.add k) = some (.slice (some ad) 1 m) ∧ w.cell? ad = some (.int .u8 (x.n : Int)) ∧ B = m := by
  obtain ⟨A, n, rfl, hn, hr⟩ := h
  obtain ⟨a1, u, rfl, d0, hu⟩ := kbb_at hr k hk
  rw [e] at hu
  obtain ⟨B, m, rfl, hm, hs⟩ := hu
  obtain ⟨ad, rfl, d1⟩ := kb_at hs 0 (by simp)
  rw [add_0] at d1
  exact ⟨a1, n, ad, m, m, rfl, d0, d1, rfl⟩
theorem pt_at (p : Pl) (k : Nat) (hk : k < ((allOf p).map point).length) : ((allOf p).map point).getD k 0 = point ((k : Int) + 1) := by
  rw [List.length_map, all_len] at hk
  simp [allOf, List.getD_eq_getElem?_getD, hk]
theorem one_rowS {w : World} {A : Option Addr} {n : Nat} {l : List (List F)} (h : Rbb w (.slice A l.length n) l) (k : Nat) (hk : k < l.length) (x : F) (e : l.getD k [] = [x]) : ∃ a1 ad m, A = some a1 ∧ w.cell? (a1.add k) = some (.slice (some ad) 1 m) ∧ w.cell? ad = some (.int .u8 (x.n : Int)) := by
  obtain ⟨a1, n1, ad, B, m, hv, h1, h2, _⟩ := one_row h k hk x e
  injection hv with hv
  exact ⟨a1, ad, m, hv, h1, h2⟩
set_option maxRecDepth 100000 in
set_option maxHeartbeats 6400000 in
theorem maskMoves_ok (p : Pl) (hi : p.In) (dv tv y0 y1 : Value) (d tape : List F) (z0 z1 : List Int) (w : World) (hd : Rb w dv d) (ht : Rb w tv tape) (k0 : Ri w y0 z0) (k1 : Ri w y1 z1) (hL : Lite p) (h : p.Ok) (e0 : maE p d.length z0 = 0) (e1 : maE p d.length z1 = 0) (hw : p.T + p.L - 1 ≤ (tape.length : Int)) (hmx : tape.length ≤ 140737488351232) :
   Calls Try.prog 34 #[planV p, .agg #[dv, tv], .agg #[y0, y1]] w fun e w' => e = .returned (.bool true) ∧ Below w.heap.size w w' := by
  have hK := Lib.hid (lite_lt hL)
  have hL0 := Lib.hid hL
  replace hL := Lib.hid (decide_eq_true hL)
  have tw : decide ((tape.length : Int) < p.T + p.L - 1) = false := decide_eq_false (by omega)
  have hr9 : Hid (1 ≤ p.T ∧ 1 ≤ p.L ∧ p.T ≤ 12 ∧ p.L ≤ 12 ∧ p.N ≤ 12 ∧ 1 ≤ p.N) := Lib.hid (by have := h.t; have := h.l; have := h.tl; have := h.wn; have := hL0.out.1; have := hL0.out.2.1; have := hL0.out.2.2; omega)
  obtain ⟨sh, hsh⟩ : ∃ sh, sh = shOf p d z0 := ⟨_, rfl⟩
  obtain ⟨su, hsu⟩ : ∃ su, su = shOf p d z1 := ⟨_, rfl⟩
  obtain ⟨df, hdf⟩ : ∃ df, df = F.padd sh su := ⟨_, rfl⟩
  have hl0 := sh_len' h e0
  have hl1 := sh_len' h e1
  rw [← hsh] at hl0
  rw [← hsu] at hl1
  have hsl : Hid (sh.length ≤ 1000000) := Lib.hid (by have := hr9.out; omega)
  have hul : Hid (su.length ≤ 1000000) := Lib.hid (by have := hr9.out; omega)
  have hdl : Hid (df.length ≤ 1000000) := Lib.hid (by rw [hdf, F.padd_len]; have := hr9.out; omega)
  have hzm : Hid (∀ x, F.ev x (F.rt (secretsAt p)) * F.ev x (F.tp p.T.toNat tape 0) + F.ev x (F.rt (secretsAt p)) * F.ev x (F.tp p.T.toNat (apM tape 0 (zeroM p df)) 0) = F.ev x df) := Lib.hid (fun x => by
    rw [hdf, hsh, hsu]
    exact zero_moves h hK.out e0 e1 tape (by have := hr9.out; omega) x)
  obtain ⟨WW, hWW⟩ : ∃ WW : Nat, p.T + p.L - 1 = WW := ⟨(p.T + p.L - 1).toNat, by have := hr9.out; omega⟩
  have hbm : Hid (∀ t, t ∈ z0 → ∀ x, (x + point t) * F.ev x (F.tp WW tape 0) + (x + point t) * F.ev x (F.tp WW (apM tape 0 (blindM p sh t)) 0) = F.ev x sh) := Lib.hid (fun t ht x => by
    rw [hsh]
    exact blind_moves h hK.out e0 t ht tape WW hWW (by omega) x)
  have eW := Lib.hid hWW
  have hin : Hid (∀ t ∈ z0, 1 ≤ t ∧ t ≤ p.N) := Lib.hid (ma_zero e0).2.2.2
  have htl := Lib.hid hmx
  have hT1 : Hid (p.T * ((1 : Nat) : Int) ≤ (tape.length : Int)) := Lib.hid (by have := hr9.out; omega)
  have hT2 : Hid (p.T * ((1 : Nat) : Int) ≤ ((apM tape 0 (zeroM p df)).length : Int)) := Lib.hid (by rw [apM_len]; exact hT1.out)
  have hW1 : Hid (WW * 1 ≤ tape.length) := Lib.hid (by omega)
  have hpl : Hid (((allOf p).map point).length = p.N.toNat ∧ (p.N.toNat : Int) = p.N) := Lib.hid (by rw [List.length_map, all_len]; have := hr9.out; exact ⟨rfl, by omega⟩)
  replace hsh := Lib.hid hsh
  replace hsu := Lib.hid hsu
  replace hdf := Lib.hid hdf
  replace hw := Lib.hid hw
  replace e0 := Lib.hid e0
  replace e1 := Lib.hid e1
  clear hWW hl0 hl1
  have HP := ((Blk.new w (planC p) 33).alloc (.cells #[dv, tv] 103)).alloc (.cells #[y0, y1] 138)
  have HQ := (Blk.new' (w.alloc (.cells (planC p) 33)) #[dv, tv] 103 (World.size_alloc w _)).alloc (.cells #[y0, y1] 138)
  have HR := Blk.new' ((w.alloc (.cells (planC p) 33)).alloc (.cells #[dv, tv] 103)) #[y0, y1] 138 (by rw [World.size_alloc, World.size_alloc])
  have hB := below_alloc (below_alloc (below_alloc (Below.refl w.heap.size w) (.cells (planC p) 33)) (.cells #[dv, tv] 103)) (.cells #[y0, y1] 138)
  replace hd := hd.below hB
  replace ht := ht.below hB
  replace k0 := k0.below hB
  replace k1 := k1.below hB
  obtain ⟨Ad, cd, rfl⟩ := rk_form hd
  obtain ⟨At, ct, rfl⟩ := rk_form ht
  obtain ⟨A0, n0, rfl⟩ := rk_form k0
  obtain ⟨A1, n1, rfl⟩ := rk_form k1
  have hld := kb_len (rk_C hd)
  have hlt := kb_len (rk_C ht)
  have hl0 := ri_len (rk_C k0)
  have hl1 := ri_len (rk_C k1)
  go_enter Try.func34, Try.ntmps34
  go_wp2_with fail
  generalize ((w.alloc (.cells (planC p) 33)).alloc (.cells #[.slice Ad d.length cd, .slice At tape.length ct] 103)).alloc (.cells #[.slice A0 z0.length n0, .slice A1 z1.length n1] 138) = w1 at *
  have q0 := HQ.cell 0 _ rfl
  have q1 := HQ.cell 1 _ rfl
  go_quiet (fail)
  replace HP := HP.below (pw_below_drewN (Below.refl _ _) nq)
  replace HR := HR.below (pw_below_drewN (Below.refl _ _) nq)
  replace hd := hd.drewN nq
  replace ht := ht.drewN nq
  replace k0 := k0.drewN nq
  replace k1 := k1.drewN nq
  replace hB := pw_below_drewN hB nq
  clear q0 q1 HQ
  generalize w1.drewN nq = w1' at *
  obtain ⟨c0, c1, c2, c3, c4, c5⟩ := cells6 HP
  have r0 := HR.cell 0 _ rfl
  have r1 := HR.cell 1 _ rfl
  go_wp2_with fail
  refine (light_c p _).mono ?_
  rintro e w2 ⟨rfl, h2⟩
  rw [hL.out]
  (try clear c0 c1 c2 c3 c4 c5 r0 r1)
  replace HP := HP.below h2
  replace HR := HR.below h2
  replace hd := hd.below h2
  replace ht := ht.below h2
  replace k0 := k0.below h2
  replace k1 := k1.below h2
  replace hB := bt_ hB h2
  obtain ⟨c0, c1, c2, c3, c4, c5⟩ := cells6 HP
  have r0 := HR.cell 0 _ rfl
  have r1 := HR.cell 1 _ rfl
  clear h2
  go_wp2_with fail
  refine (rRight_yes p h _).mono ?_
  rintro e w3 ⟨rfl, h3⟩
  (try clear c0 c1 c2 c3 c4 c5 r0 r1)
  replace HP := HP.below h3
  replace HR := HR.below h3
  replace hd := hd.below h3
  replace ht := ht.below h3
  replace k0 := k0.below h3
  replace k1 := k1.below h3
  replace hB := bt_ hB h3
  clear h3
  obtain ⟨c0, c1, c2, c3, c4, c5⟩ := cells6 HP
  have r0 := HR.cell 0 _ rfl
  have r1 := HR.cell 1 _ rfl
  go_wp2_with fail
  refine (rCheck14_c p h _ _ d z0 _ hd k0).mono ?_
  rintro e w4 ⟨rfl, h4⟩
  rw [e0.out]
  (try clear c0 c1 c2 c3 c4 c5 r0 r1)
  replace HP := HP.below h4
  replace HR := HR.below h4
  replace hd := hd.below h4
  replace ht := ht.below h4
  replace k0 := k0.below h4
  replace k1 := k1.below h4
  replace hB := bt_ hB h4
  clear h4
  obtain ⟨c0, c1, c2, c3, c4, c5⟩ := cells6 HP
  have r0 := HR.cell 0 _ rfl
  have r1 := HR.cell 1 _ rfl
  go_wp2_with fail
  refine (rCheck14_c p h _ _ d z1 _ hd k1).mono ?_
  rintro e w5 ⟨rfl, h5⟩
  rw [e1.out]
  (try clear c0 c1 c2 c3 c4 c5 r0 r1)
  replace HP := HP.below h5
  replace HR := HR.below h5
  replace hd := hd.below h5
  replace ht := ht.below h5
  replace k0 := k0.below h5
  replace k1 := k1.below h5
  replace hB := bt_ hB h5
  clear h5
  obtain ⟨c0, c1, c2, c3, c4, c5⟩ := cells6 HP
  have r0 := HR.cell 0 _ rfl
  have r1 := HR.cell 1 _ rfl
  go_wp2_with fail
  refine (rWidth13_c p h _).mono ?_
  rintro e w6 ⟨rfl, h6⟩
  (try clear c0 c1 c2 c3 c4 c5 r0 r1)
  replace HP := HP.below h6
  replace HR := HR.below h6
  replace hd := hd.below h6
  replace ht := ht.below h6
  replace k0 := k0.below h6
  replace k1 := k1.below h6
  replace hB := bt_ hB h6
  clear h6
  obtain ⟨c0, c1, c2, c3, c4, c5⟩ := cells6 HP
  have r0 := HR.cell 0 _ rfl
  have r1 := HR.cell 1 _ rfl
  go_wp2_with fail
  refine (new_x _).mono ?_
  rintro e w7 ⟨bF, rfl, hF, h7⟩
  (try clear c0 c1 c2 c3 c4 c5 r0 r1)
  replace HP := HP.below h7
  replace HR := HR.below h7
  replace hd := hd.below h7
  replace ht := ht.below h7
  replace k0 := k0.below h7
  replace k1 := k1.below h7
  replace hB := bt_ hB h7
  clear h7
  obtain ⟨c0, c1, c2, c3, c4, c5⟩ := cells6 HP
  have r0 := HR.cell 0 _ rfl
  have r1 := HR.cell 1 _ rfl
  go_wp2_with fail
  refine (mShift_ok bF p h hK.out _ _ d z0 _ hF hd k0 e0.out).mono ?_
  rintro e w8 ⟨vS, rfl, sS, h8⟩
  (try clear c0 c1 c2 c3 c4 c5 r0 r1)
  replace HP := HP.below h8
  replace HR := HR.below h8
  replace hd := hd.below h8
  replace ht := ht.below h8
  replace k0 := k0.below h8
  replace k1 := k1.below h8
  replace hB := bt_ hB h8
  obtain ⟨c0, c1, c2, c3, c4, c5⟩ := cells6 HP
  have r0 := HR.cell 0 _ rfl
  have r1 := HR.cell 1 _ rfl
  replace hF := hF.below h8
  replace sS := sS.rk
  rw [← hsh.out] at sS
  clear h8
  go_wp2_with fail
  refine (mShift_ok bF p h hK.out _ _ d z1 _ hF hd k1 e1.out).mono ?_
  rintro e w9 ⟨vU, rfl, sU, h9⟩
  (try clear c0 c1 c2 c3 c4 c5 r0 r1)
  replace HP := HP.below h9
  replace HR := HR.below h9
  replace hd := hd.below h9
  replace ht := ht.below h9
  replace k0 := k0.below h9
  replace k1 := k1.below h9
  replace hB := bt_ hB h9
  obtain ⟨c0, c1, c2, c3, c4, c5⟩ := cells6 HP
  have r0 := HR.cell 0 _ rfl
  have r1 := HR.cell 1 _ rfl
  replace hF := hF.below h9
  replace sS := sS.below h9
  replace sU := sU.rk
  rw [← hsu.out] at sU
  clear h9
  go_wp2_with fail
  refine (rSum_c _ _ sh su _ sS sU hsl.out hul.out).mono ?_
  rintro e w10 ⟨vD, rfl, sD, h10⟩
  replace sD := sD.rk
  (try clear c0 c1 c2 c3 c4 c5 r0 r1)
  replace HP := HP.below h10
  replace HR := HR.below h10
  replace hd := hd.below h10
  replace ht := ht.below h10
  replace k0 := k0.below h10
  replace k1 := k1.below h10
  replace hB := bt_ hB h10
  obtain ⟨c0, c1, c2, c3, c4, c5⟩ := cells6 HP
  have r0 := HR.cell 0 _ rfl
  have r1 := HR.cell 1 _ rfl
  replace hF := hF.below h10
  replace sS := sS.below h10
  rw [← hdf.out] at sD
  clear h10 sU
  go_wp2_with fail
  refine (zZero_ok bF p h 1 (by decide) _ tape _ hF ht hT1.out).mono ?_
  rintro e w11 ⟨vA, rfl, sA, h11⟩
  (try clear c0 c1 c2 c3 c4 c5 r0 r1)
  replace HP := HP.below h11
  replace HR := HR.below h11
  replace hd := hd.below h11
  replace ht := ht.below h11
  replace k0 := k0.below h11
  replace k1 := k1.below h11
  replace hB := bt_ hB h11
  obtain ⟨c0, c1, c2, c3, c4, c5⟩ := cells6 HP
  have r0 := HR.cell 0 _ rfl
  have r1 := HR.cell 1 _ rfl
  replace hF := hF.below h11
  replace sS := sS.below h11
  replace sD := sD.below h11
  replace sA := sA.rk
  obtain ⟨RA, hRA⟩ : ∃ RA, RA = ((allOf p).map point).map (zsh p.T.toNat (F.rt (secretsAt p)) tape 1) := ⟨_, rfl⟩
  obtain ⟨RB, hRB⟩ : ∃ RB, RB = ((allOf p).map point).map (zsh p.T.toNat (F.rt (secretsAt p)) (apM tape 0 (zeroM p df)) 1) := ⟨_, rfl⟩
  rw [← hRA] at sA
  clear h11
  replace hRA := Lib.hid hRA
  replace hRB := Lib.hid hRB
  have hAl : Hid (RA.length = p.N.toNat) := Lib.hid (by rw [hRA.out, List.length_map]; exact hpl.out.1)
  have hBl : Hid (RB.length = p.N.toNat) := Lib.hid (by rw [hRB.out, List.length_map]; exact hpl.out.1)
  have hpair : Hid (∀ k, k < p.N.toNat → ∃ x y, RA.getD k [] = [x] ∧ RB.getD k [] = [y] ∧ x + y = F.ev (point ((k : Int) + 1)) df) := Lib.hid (fun k hk => by
    have hk2 : k < ((allOf p).map point).length := by rw [hpl.out.1]; exact hk
    refine ⟨_, _, ?_, ?_, hzm.out _⟩
    · rw [hRA.out, map_getD _ _ 0 [] _ hk2, pt_at p k hk2, zsh_one]
    · rw [hRB.out, map_getD _ _ 0 [] _ hk2, pt_at p k hk2, zsh_one])
  obtain ⟨zA, yA, rfl⟩ := rk_form sA
  clear c0 c1 c2 c3 c4 c5 r0 r1 hRA
  have hB0 := hB
  clear hB
  go_wp2_with fail
  refine wp_region_tell [.p (isF), .v (planV p), .p (isB tape), .p (isF), .v (planV p), .p (isB df), .p (isB (zeroM p df)), .p (isB (apM tape 0 (zeroM p df))), .p (isTBB RB (.int .i64 0)), .p (isTBB RB (.int .i64 0)), .p (isBB RB), .v (.int .i64 0), .p (isBB RB), .v (.int .i64 0)] [([], none), ([], none), ([], none), ([], none), ([], none), ([], none), ([(3, some 96), (4, some 97), (5, some 98)], none), ([(2, some 95), (6, some 99)], none), ([(0, some 93), (1, some 94), (7, some 100)], none), ([(8, some 101)], none), ([(9, some 92)], none), ([(9, some 92)], none), ([(10, some 102)], none), ([(11, some 103)], none)] [(0, some 93), (1, some 94), (2, some 95), (3, some 96), (4, some 97), (5, some 98), (6, some 99), (7, some 100), (8, some 101), (9, some 92), (10, some 102), (11, some 103), (12, some 17), (13, some 18)] (by kernel_rfl) (by kernel_rfl) (by kernel_rfl) (by kernel_rfl) (by exact ⟨last_F, trivial, last_B _, last_F, trivial, last_B _, last_B _, last_B _, last_TBB _ _, last_TBB _ _, last_BB _, trivial, last_BB _, trivial, trivial⟩) ⟨?s0, ?s1, ?s2, ?s3, ?s4, ?s5, ?s6, ?s7, ?s8, ?s9, ?s10, ?s11, ?s12, ?s13, trivial⟩ ?hQ
  case s0 =>
    intro W hB K hK
    simp only [tellK, Act.put, List.setIfInBounds_toArray, List.set_cons_zero, List.set_cons_succ] at hK ⊢
    refine tell_do rfl ?_
    obtain ⟨c0, c1, c2, c3, c4, c5⟩ := cells6 (HP.below hB)
    go_simp
    exact hK _ _ ⟨_, rfl, hF.below hB⟩ (Below.refl _ _)
  case s1 =>
    intro W hB K hK
    simp only [tellK, Act.put, List.setIfInBounds_toArray, List.set_cons_zero, List.set_cons_succ] at hK ⊢
    refine tell_do rfl ?_
    obtain ⟨c0, c1, c2, c3, c4, c5⟩ := cells6 (HP.below hB)
    go_simp
    exact hK _ (Below.refl _ _)
  case s2 =>
    intro W hB K hK
    simp only [tellK, Act.put, List.setIfInBounds_toArray, List.set_cons_zero, List.set_cons_succ] at hK ⊢
    refine tell_do rfl ?_
    obtain ⟨c0, c1, c2, c3, c4, c5⟩ := cells6 (HP.below hB)
    go_simp
    exact hK _ _ (ht.below hB) (Below.refl _ _)
  case s3 =>
    intro W hB K hK
    simp only [tellK, Act.put, List.setIfInBounds_toArray, List.set_cons_zero, List.set_cons_succ] at hK ⊢
    refine tell_do rfl ?_
    obtain ⟨c0, c1, c2, c3, c4, c5⟩ := cells6 (HP.below hB)
    go_simp
    exact hK _ _ ⟨_, rfl, hF.below hB⟩ (Below.refl _ _)
  case s4 =>
    intro W hB K hK
    simp only [tellK, Act.put, List.setIfInBounds_toArray, List.set_cons_zero, List.set_cons_succ] at hK ⊢
    refine tell_do rfl ?_
    obtain ⟨c0, c1, c2, c3, c4, c5⟩ := cells6 (HP.below hB)
    go_simp
    exact hK _ (Below.refl _ _)
  case s5 =>
    intro W hB K hK
    simp only [tellK, Act.put, List.setIfInBounds_toArray, List.set_cons_zero, List.set_cons_succ] at hK ⊢
    refine tell_do rfl ?_
    obtain ⟨c0, c1, c2, c3, c4, c5⟩ := cells6 (HP.below hB)
    go_simp
    exact hK _ _ (sD.below hB) (Below.refl _ _)
  case s6 =>
    intro W hB v3 h3 v5 h5 K hK
    obtain ⟨b3, rfl, h3⟩ := h3
    replace h5 : Rb W v5 df := h5
    simp only [tellK, Act.put, List.setIfInBounds_toArray, List.set_cons_zero, List.set_cons_succ] at hK ⊢
    refine tell_do rfl ?_
    obtain ⟨c0, c1, c2, c3, c4, c5⟩ := cells6 (HP.below hB)
    go_simp
    go_at_call 141; refine (mZero_c _ p h _ df _ h3 h5 hdl.out).mono ?_; rintro e w6 ⟨v9, rfl, sA, h6⟩; exact hK _ _ sA.rk h6
  case s7 =>
    intro W hB v2 h2 v6 h6 K hK
    replace h2 : Rb W v2 tape := h2
    replace h6 : Rb W v6 (zeroM p df) := h6
    simp only [tellK, Act.put, List.setIfInBounds_toArray, List.set_cons_zero, List.set_cons_succ] at hK ⊢
    refine tell_do rfl ?_
    obtain ⟨c0, c1, c2, c3, c4, c5⟩ := cells6 (HP.below hB)
    go_simp
    go_at_call 143; refine (mApply_c _ _ tape (zeroM p df) 0 _ h2 h6 htl.out).mono ?_; rintro e w6 ⟨v9, rfl, sA, h6⟩; exact hK _ _ sA.rk h6
  case s8 =>
    intro W hB v0 h0 v7 h7 K hK
    obtain ⟨b0, rfl, h0⟩ := h0
    replace h7 : Rb W v7 (apM tape 0 (zeroM p df)) := h7
    simp only [tellK, Act.put, List.setIfInBounds_toArray, List.set_cons_zero, List.set_cons_succ] at hK ⊢
    refine tell_do rfl ?_
    obtain ⟨c0, c1, c2, c3, c4, c5⟩ := cells6 (HP.below hB)
    go_simp
    go_at_call 113; refine (zZero_ok _ p h 1 (by decide) _ (apM tape 0 (zeroM p df)) _ h0 h7 hT2.out).mono ?_; rintro e w6 ⟨v9, rfl, sA, h6⟩; replace sA := sA.rk; rw [← hRB.out] at sA; exact hK _ _ ⟨_, rfl, sA⟩ h6
  case s9 =>
    intro W hB v8 h8 K hK
    obtain ⟨z8, rfl, h8⟩ := h8
    simp only [tellK, Act.put, List.setIfInBounds_toArray, List.set_cons_zero, List.set_cons_succ] at hK ⊢
    refine tell_do rfl ?_
    obtain ⟨c0, c1, c2, c3, c4, c5⟩ := cells6 (HP.below hB)
    go_simp
    exact hK _ _ ⟨_, rfl, h8⟩ (Below.refl _ _)
  case s10 =>
    intro W hB v9 h9 K hK
    obtain ⟨z9, rfl, h9⟩ := h9
    simp only [tellK, Act.put, List.setIfInBounds_toArray, List.set_cons_zero, List.set_cons_succ] at hK ⊢
    refine tell_do rfl ?_
    obtain ⟨c0, c1, c2, c3, c4, c5⟩ := cells6 (HP.below hB)
    go_simp
    exact hK _ _ h9 (Below.refl _ _)
  case s11 =>
    intro W hB v9 h9 K hK
    obtain ⟨z9, rfl, h9⟩ := h9
    simp only [tellK, Act.put, List.setIfInBounds_toArray, List.set_cons_zero, List.set_cons_succ] at hK ⊢
    refine tell_do rfl ?_
    obtain ⟨c0, c1, c2, c3, c4, c5⟩ := cells6 (HP.below hB)
    go_simp
    exact hK _ (Below.refl _ _)
  case s12 =>
    intro W hB v10 h10 K hK
    replace h10 : Rbb W v10 RB := h10
    simp only [tellK, Act.put, List.setIfInBounds_toArray, List.set_cons_zero, List.set_cons_succ] at hK ⊢
    refine tell_do rfl ?_
    obtain ⟨c0, c1, c2, c3, c4, c5⟩ := cells6 (HP.below hB)
    go_simp
    exact hK _ _ h10 (Below.refl _ _)
  case s13 =>
    intro W hB K hK
    simp only [tellK, Act.put, List.setIfInBounds_toArray, List.set_cons_zero, List.set_cons_succ] at hK ⊢
    refine tell_do rfl ?_
    obtain ⟨c0, c1, c2, c3, c4, c5⟩ := cells6 (HP.below hB)
    go_simp
    exact hK _ (Below.refl _ _)
  case hQ =>
    intro W hB v0 h0 v2 h2 v3 h3 v5 h5 v6 h6 v7 h7 v8 h8 v9 h9 v10 h10 v12 h12
    obtain ⟨b0, rfl, h0⟩ := h0
    replace h2 : Rb W v2 tape := h2
    obtain ⟨b3, rfl, h3⟩ := h3
    replace h5 : Rb W v5 df := h5
    replace h6 : Rb W v6 (zeroM p df) := h6
    replace h7 : Rb W v7 (apM tape 0 (zeroM p df)) := h7
    obtain ⟨z8, rfl, h8⟩ := h8
    obtain ⟨z9, rfl, h9⟩ := h9
    replace h10 : Rbb W v10 RB := h10
    replace h12 : Rbb W v12 RB := h12
    simp only [tellGo, sayAt, List.getD_cons_zero, List.getD_cons_succ, Act.put, List.setIfInBounds_toArray, List.set_cons_zero, List.set_cons_succ]
    have hB9 := hB
    have sB : Rbb W v12 RB := h12
    have HP := HP.below hB9
    have HR := HR.below hB9
    have hd := hd.below hB9
    have ht := ht.below hB9
    have k0 := k0.below hB9
    replace hF := hF.below hB9
    replace sS := sS.below hB9
    replace sD := sD.below hB9
    have sA := sA.below hB9
    have hB := bt_ hB0 hB9
    obtain ⟨zB, yB, rfl⟩ := rk_form sB
    clear hB9 hB0 h0 h2 h3 h5 h6 h7 h8 h9 h10 h12
    obtain ⟨NN, hNN⟩ : ∃ NN, NN = p.N.toNat := ⟨_, rfl⟩
    rw [← hNN] at hAl hBl hpair
    have hpN : Hid ((NN : Int) = p.N) := Lib.hid (by rw [hNN]; exact hpl.out.2)
    have tA : ((RA.length : Int) != p.N) = false := by rw [hAl.out, hpN.out]; simp
    have tB : ((RB.length : Int) != p.N) = false := by rw [hBl.out, hpN.out]; simp
    replace hNN := Lib.hid hNN
    obtain ⟨c0, c1, c2, c3, c4, c5⟩ := cells6 HP
    go_wp2_with fail
    go_loopw [126] (fun i wr => ∃ k : Nat, k ≤ NN ∧ i = .int .i64 k ∧ Below W.heap.size W wr) (fun i _ => NN - (intOf i).toNat)
    case atStart => exact ⟨0, by omega, rfl, Below.refl _ _⟩
    case round =>
      obtain ⟨k, hk, rfl, hb⟩ := hrel
      by_cases hlt : k < NN
      · have g1 : (k : Int) < (RA.length : Int) := by rw [hAl.out]; omega
        have g2 : (k : Int) < (RB.length : Int) := by rw [hBl.out]; omega
        obtain ⟨x, y, e1', e2', e3'⟩ := hpair.out k hlt
        obtain ⟨aA, dA, mA, rfl, cA, cA2⟩ := one_rowS (sA.below hb) k (by rw [hAl.out]; exact hlt) x e1'
        obtain ⟨aB, dB, mB, rfl, cB, cB2⟩ := one_rowS (sB.below hb) k (by rw [hBl.out]; exact hlt) y e2'
        have hp := fun w => rPoint_c ((k : Int) + 1) w
        generalize point ((k : Int) + 1) = px at *
        have X1 := xor8 x y
        have t5 : (((x + y).n : Int) != ((F.ev px df).n : Int)) = false := by rw [e3']; simp
        replace hp := Lib.hid hp
        have sX := sD.below hb
        have hk9 : (k : Int) < 1000 := by have := hpN.out; have := hr9.out; omega
        have u3 : IntKind.i64.wrap ((k : Int) + 1) = (k : Int) + 1 := wrapI _ (by omega) (by omega)
        clear e1' e2' e3'
        go_wp2_with fail
        refine wp_region_tell [.v (.slice (some aA) RA.length yA), .v (.int .i64 k), .v (.pointer (some (aA.add k))), .v (.slice (some dA) 1 mA), .v (.int .i64 1), .v (.bool false), .v (.bool false), .v (.slice (some aB) RB.length yB), .v (.int .i64 k), .v (.pointer (some (aB.add k))), .v (.slice (some dB) 1 mB), .v (.int .i64 1), .v (.bool false), .v (.bool false), .v (.bool false), .v (.slice (some aA) RA.length yA), .v (.int .i64 k), .v (.pointer (some (aA.add k))), .v (.slice (some dA) 1 mA), .v (.pointer (some dA)), .v (.int .u8 (x.n : Int)), .v (.slice (some aB) RB.length yB), .v (.int .i64 k), .v (.pointer (some (aB.add k))), .v (.slice (some dB) 1 mB), .v (.pointer (some dB)), .v (.int .u8 (y.n : Int)), .v (.int .u8 ((x + y).n : Int)), .p (isB df), .v (.int .i64 k), .v (.int .i64 ((k : Int) + 1)), .v (.int .u8 (px.n : Int)), .v (.int .u8 ((F.ev px df).n : Int)), .v (.bool false), .v (.bool false)] [([], none), ([], none), ([(0, some 129), (1, some 130)], none), ([(2, some 131)], none), ([(3, some 132)], none), ([(4, some 133)], none), ([(5, some 134)], none), ([(6, some 135)], some (some 135, false)), ([(6, some 135)], some (some 135, false)), ([(6, some 135), (7, some 136), (8, some 137)], some (some 135, false)), ([(6, some 135), (9, some 138)], some (some 135, false)), ([(6, some 135), (10, some 139)], some (some 135, false)), ([(6, some 135), (11, some 140)], some (some 135, false)), ([(6, some 135), (12, some 141)], none), ([(13, some 142)], none), ([(14, some 143)], some (some 143, false)), ([(14, some 143)], some (some 143, false)), ([(14, some 143), (15, some 144), (16, some 145)], some (some 143, false)), ([(14, some 143), (17, some 146)], some (some 143, false)), ([(14, some 143), (18, some 147)], some (some 143, false)), ([(14, some 143), (19, some 148)], some (some 143, false)), ([(14, some 143)], some (some 143, false)), ([(14, some 143)], some (some 143, false)), ([(14, some 143), (21, some 150), (22, some 151)], some (some 143, false)), ([(14, some 143), (23, some 152)], some (some 143, false)), ([(14, some 143), (24, some 153)], some (some 143, false)), ([(14, some 143), (25, some 154)], some (some 143, false)), ([(14, some 143), (20, some 149), (26, some 155)], some (some 143, false)), ([(14, some 143)], some (some 143, false)), ([(14, some 143)], some (some 143, false)), ([(14, some 143), (29, some 158)], some (some 143, false)), ([(14, some 143), (30, some 159)], some (some 143, false)), ([(14, some 143), (28, some 157), (31, some 160)], some (some 143, false)), ([(14, some 143), (27, some 156), (32, some 161)], some (some 143, false)), ([(14, some 143), (33, some 162)], none)] [(0, some 129), (1, some 130), (2, some 131), (3, some 132), (4, some 133), (5, some 134), (6, some 135), (7, some 136), (8, some 137), (9, some 138), (10, some 139), (11, some 140), (12, some 141), (13, some 142), (14, some 143), (15, some 144), (16, some 145), (17, some 146), (18, some 147), (19, some 148), (20, some 149), (21, some 150), (22, some 151), (23, some 152), (24, some 153), (25, some 154), (26, some 155), (27, some 156), (28, some 157), (29, some 158), (30, some 159), (31, some 160), (32, some 161), (33, some 162), (34, some 163)] (by kernel_rfl) (by kernel_rfl) (by kernel_rfl) (by kernel_rfl) (by exact ⟨trivial, trivial, trivial, trivial, trivial, trivial, trivial, trivial, trivial, trivial, trivial, trivial, trivial, trivial, trivial, trivial, trivial, trivial, trivial, trivial, trivial, trivial, trivial, trivial, trivial, trivial, trivial, trivial, last_B _, trivial, trivial, trivial, trivial, trivial, trivial, trivial⟩) ⟨?s0, ?s1, ?s2, ?s3, ?s4, ?s5, ?s6, ?s7, ?s8, ?s9, ?s10, ?s11, ?s12, ?s13, ?s14, ?s15, ?s16, ?s17, ?s18, ?s19, ?s20, ?s21, ?s22, ?s23, ?s24, ?s25, ?s26, ?s27, ?s28, ?s29, ?s30, ?s31, ?s32, ?s33, ?s34, trivial⟩ ?hQ
        case s0 =>
          intro W hB K hK
          simp only [tellK, Act.put, List.setIfInBounds_toArray, List.set_cons_zero, List.set_cons_succ] at hK ⊢
          refine tell_do rfl ?_
          have cA := pw_cell_below hB cA; have cB := pw_cell_below hB cB; have cA2 := pw_cell_below hB cA2; have cB2 := pw_cell_below hB cB2
          go_simp
          exact hK _ (Below.refl _ _)
        case s1 =>
          intro W hB K hK
          simp only [tellK, Act.put, List.setIfInBounds_toArray, List.set_cons_zero, List.set_cons_succ] at hK ⊢
          refine tell_do rfl ?_
          have cA := pw_cell_below hB cA; have cB := pw_cell_below hB cB; have cA2 := pw_cell_below hB cA2; have cB2 := pw_cell_below hB cB2
          go_simp
          exact hK _ (Below.refl _ _)
        case s2 =>
          intro W hB K hK
          simp only [tellK, Act.put, List.setIfInBounds_toArray, List.set_cons_zero, List.set_cons_succ] at hK ⊢
          refine tell_do rfl ?_
          have cA := pw_cell_below hB cA; have cB := pw_cell_below hB cB; have cA2 := pw_cell_below hB cA2; have cB2 := pw_cell_below hB cB2
          go_simp
          exact hK _ (Below.refl _ _)
        case s3 =>
          intro W hB K hK
          simp only [tellK, Act.put, List.setIfInBounds_toArray, List.set_cons_zero, List.set_cons_succ] at hK ⊢
          refine tell_do rfl ?_
          have cA := pw_cell_below hB cA; have cB := pw_cell_below hB cB; have cA2 := pw_cell_below hB cA2; have cB2 := pw_cell_below hB cB2
          go_simp
          exact hK _ (Below.refl _ _)
        case s4 =>
          intro W hB K hK
          simp only [tellK, Act.put, List.setIfInBounds_toArray, List.set_cons_zero, List.set_cons_succ] at hK ⊢
          refine tell_do rfl ?_
          have cA := pw_cell_below hB cA; have cB := pw_cell_below hB cB; have cA2 := pw_cell_below hB cA2; have cB2 := pw_cell_below hB cB2
          go_simp
          exact hK _ (Below.refl _ _)
        case s5 =>
          intro W hB K hK
          simp only [tellK, Act.put, List.setIfInBounds_toArray, List.set_cons_zero, List.set_cons_succ] at hK ⊢
          refine tell_do rfl ?_
          have cA := pw_cell_below hB cA; have cB := pw_cell_below hB cB; have cA2 := pw_cell_below hB cA2; have cB2 := pw_cell_below hB cB2
          go_simp
          exact hK _ (Below.refl _ _)
        case s6 =>
          intro W hB K hK
          simp only [tellK, Act.put, List.setIfInBounds_toArray, List.set_cons_zero, List.set_cons_succ] at hK ⊢
          refine tell_do rfl ?_
          have cA := pw_cell_below hB cA; have cB := pw_cell_below hB cB; have cA2 := pw_cell_below hB cA2; have cB2 := pw_cell_below hB cB2
          go_simp
          exact hK _ (Below.refl _ _)
        case s7 =>
          intro W hB K hK
          simp only [tellK, Act.put, List.setIfInBounds_toArray, List.set_cons_zero, List.set_cons_succ] at hK ⊢
          refine tell_do rfl ?_
          have cA := pw_cell_below hB cA; have cB := pw_cell_below hB cB; have cA2 := pw_cell_below hB cA2; have cB2 := pw_cell_below hB cB2
          go_simp
          exact hK _ (Below.refl _ _)
        case s8 =>
          intro W hB K hK
          simp only [tellK, Act.put, List.setIfInBounds_toArray, List.set_cons_zero, List.set_cons_succ] at hK ⊢
          refine tell_do rfl ?_
          have cA := pw_cell_below hB cA; have cB := pw_cell_below hB cB; have cA2 := pw_cell_below hB cA2; have cB2 := pw_cell_below hB cB2
          go_simp
          exact hK _ (Below.refl _ _)
        case s9 =>
          intro W hB K hK
          simp only [tellK, Act.put, List.setIfInBounds_toArray, List.set_cons_zero, List.set_cons_succ] at hK ⊢
          refine tell_do rfl ?_
          have cA := pw_cell_below hB cA; have cB := pw_cell_below hB cB; have cA2 := pw_cell_below hB cA2; have cB2 := pw_cell_below hB cB2
          go_simp
          exact hK _ (Below.refl _ _)
        case s10 =>
          intro W hB K hK
          simp only [tellK, Act.put, List.setIfInBounds_toArray, List.set_cons_zero, List.set_cons_succ] at hK ⊢
          refine tell_do rfl ?_
          have cA := pw_cell_below hB cA; have cB := pw_cell_below hB cB; have cA2 := pw_cell_below hB cA2; have cB2 := pw_cell_below hB cB2
          go_simp
          exact hK _ (Below.refl _ _)
        case s11 =>
          intro W hB K hK
          simp only [tellK, Act.put, List.setIfInBounds_toArray, List.set_cons_zero, List.set_cons_succ] at hK ⊢
          refine tell_do rfl ?_
          have cA := pw_cell_below hB cA; have cB := pw_cell_below hB cB; have cA2 := pw_cell_below hB cA2; have cB2 := pw_cell_below hB cB2
          go_simp
          exact hK _ (Below.refl _ _)
        case s12 =>
          intro W hB K hK
          simp only [tellK, Act.put, List.setIfInBounds_toArray, List.set_cons_zero, List.set_cons_succ] at hK ⊢
          refine tell_do rfl ?_
          have cA := pw_cell_below hB cA; have cB := pw_cell_below hB cB; have cA2 := pw_cell_below hB cA2; have cB2 := pw_cell_below hB cB2
          go_simp
          exact hK _ (Below.refl _ _)
        case s13 =>
          intro W hB K hK
          simp only [tellK, Act.put, List.setIfInBounds_toArray, List.set_cons_zero, List.set_cons_succ] at hK ⊢
          refine tell_do rfl ?_
          have cA := pw_cell_below hB cA; have cB := pw_cell_below hB cB; have cA2 := pw_cell_below hB cA2; have cB2 := pw_cell_below hB cB2
          go_simp
          exact hK _ (Below.refl _ _)
        case s14 =>
          intro W hB K hK
          simp only [tellK, Act.put, List.setIfInBounds_toArray, List.set_cons_zero, List.set_cons_succ] at hK ⊢
          refine tell_do rfl ?_
          have cA := pw_cell_below hB cA; have cB := pw_cell_below hB cB; have cA2 := pw_cell_below hB cA2; have cB2 := pw_cell_below hB cB2
          go_simp
          exact hK _ (Below.refl _ _)
        case s15 =>
          intro W hB K hK
          simp only [tellK, Act.put, List.setIfInBounds_toArray, List.set_cons_zero, List.set_cons_succ] at hK ⊢
          refine tell_do rfl ?_
          have cA := pw_cell_below hB cA; have cB := pw_cell_below hB cB; have cA2 := pw_cell_below hB cA2; have cB2 := pw_cell_below hB cB2
          go_simp
          exact hK _ (Below.refl _ _)
        case s16 =>
          intro W hB K hK
          simp only [tellK, Act.put, List.setIfInBounds_toArray, List.set_cons_zero, List.set_cons_succ] at hK ⊢
          refine tell_do rfl ?_
          have cA := pw_cell_below hB cA; have cB := pw_cell_below hB cB; have cA2 := pw_cell_below hB cA2; have cB2 := pw_cell_below hB cB2
          go_simp
          exact hK _ (Below.refl _ _)
        case s17 =>
          intro W hB K hK
          simp only [tellK, Act.put, List.setIfInBounds_toArray, List.set_cons_zero, List.set_cons_succ] at hK ⊢
          refine tell_do rfl ?_
          have cA := pw_cell_below hB cA; have cB := pw_cell_below hB cB; have cA2 := pw_cell_below hB cA2; have cB2 := pw_cell_below hB cB2
          go_simp
          exact hK _ (Below.refl _ _)
        case s18 =>
          intro W hB K hK
          simp only [tellK, Act.put, List.setIfInBounds_toArray, List.set_cons_zero, List.set_cons_succ] at hK ⊢
          refine tell_do rfl ?_
          have cA := pw_cell_below hB cA; have cB := pw_cell_below hB cB; have cA2 := pw_cell_below hB cA2; have cB2 := pw_cell_below hB cB2
          go_simp
          exact hK _ (Below.refl _ _)
        case s19 =>
          intro W hB K hK
          simp only [tellK, Act.put, List.setIfInBounds_toArray, List.set_cons_zero, List.set_cons_succ] at hK ⊢
          refine tell_do rfl ?_
          have cA := pw_cell_below hB cA; have cB := pw_cell_below hB cB; have cA2 := pw_cell_below hB cA2; have cB2 := pw_cell_below hB cB2
          go_simp
          exact hK _ (Below.refl _ _)
        case s20 =>
          intro W hB K hK
          simp only [tellK, Act.put, List.setIfInBounds_toArray, List.set_cons_zero, List.set_cons_succ] at hK ⊢
          refine tell_do rfl ?_
          have cA := pw_cell_below hB cA; have cB := pw_cell_below hB cB; have cA2 := pw_cell_below hB cA2; have cB2 := pw_cell_below hB cB2
          go_simp
          exact hK _ (Below.refl _ _)
        case s21 =>
          intro W hB K hK
          simp only [tellK, Act.put, List.setIfInBounds_toArray, List.set_cons_zero, List.set_cons_succ] at hK ⊢
          refine tell_do rfl ?_
          have cA := pw_cell_below hB cA; have cB := pw_cell_below hB cB; have cA2 := pw_cell_below hB cA2; have cB2 := pw_cell_below hB cB2
          go_simp
          exact hK _ (Below.refl _ _)
        case s22 =>
          intro W hB K hK
          simp only [tellK, Act.put, List.setIfInBounds_toArray, List.set_cons_zero, List.set_cons_succ] at hK ⊢
          refine tell_do rfl ?_
          have cA := pw_cell_below hB cA; have cB := pw_cell_below hB cB; have cA2 := pw_cell_below hB cA2; have cB2 := pw_cell_below hB cB2
          go_simp
          exact hK _ (Below.refl _ _)
        case s23 =>
          intro W hB K hK
          simp only [tellK, Act.put, List.setIfInBounds_toArray, List.set_cons_zero, List.set_cons_succ] at hK ⊢
          refine tell_do rfl ?_
          have cA := pw_cell_below hB cA; have cB := pw_cell_below hB cB; have cA2 := pw_cell_below hB cA2; have cB2 := pw_cell_below hB cB2
          go_simp
          exact hK _ (Below.refl _ _)
        case s24 =>
          intro W hB K hK
          simp only [tellK, Act.put, List.setIfInBounds_toArray, List.set_cons_zero, List.set_cons_succ] at hK ⊢
          refine tell_do rfl ?_
          have cA := pw_cell_below hB cA; have cB := pw_cell_below hB cB; have cA2 := pw_cell_below hB cA2; have cB2 := pw_cell_below hB cB2
          go_simp
          exact hK _ (Below.refl _ _)
        case s25 =>
          intro W hB K hK
          simp only [tellK, Act.put, List.setIfInBounds_toArray, List.set_cons_zero, List.set_cons_succ] at hK ⊢
          refine tell_do rfl ?_
          have cA := pw_cell_below hB cA; have cB := pw_cell_below hB cB; have cA2 := pw_cell_below hB cA2; have cB2 := pw_cell_below hB cB2
          go_simp
          exact hK _ (Below.refl _ _)
        case s26 =>
          intro W hB K hK
          simp only [tellK, Act.put, List.setIfInBounds_toArray, List.set_cons_zero, List.set_cons_succ] at hK ⊢
          refine tell_do rfl ?_
          have cA := pw_cell_below hB cA; have cB := pw_cell_below hB cB; have cA2 := pw_cell_below hB cA2; have cB2 := pw_cell_below hB cB2
          go_simp
          exact hK _ (Below.refl _ _)
        case s27 =>
          intro W hB K hK
          simp only [tellK, Act.put, List.setIfInBounds_toArray, List.set_cons_zero, List.set_cons_succ] at hK ⊢
          refine tell_do rfl ?_
          have cA := pw_cell_below hB cA; have cB := pw_cell_below hB cB; have cA2 := pw_cell_below hB cA2; have cB2 := pw_cell_below hB cB2
          go_simp
          exact hK _ (Below.refl _ _)
        case s28 =>
          intro W hB K hK
          simp only [tellK, Act.put, List.setIfInBounds_toArray, List.set_cons_zero, List.set_cons_succ] at hK ⊢
          refine tell_do rfl ?_
          have cA := pw_cell_below hB cA; have cB := pw_cell_below hB cB; have cA2 := pw_cell_below hB cA2; have cB2 := pw_cell_below hB cB2
          go_simp
          exact hK _ _ (sX.below hB) (Below.refl _ _)
        case s29 =>
          intro W hB K hK
          simp only [tellK, Act.put, List.setIfInBounds_toArray, List.set_cons_zero, List.set_cons_succ] at hK ⊢
          refine tell_do rfl ?_
          have cA := pw_cell_below hB cA; have cB := pw_cell_below hB cB; have cA2 := pw_cell_below hB cA2; have cB2 := pw_cell_below hB cB2
          go_simp
          exact hK _ (Below.refl _ _)
        case s30 =>
          intro W hB K hK
          simp only [tellK, Act.put, List.setIfInBounds_toArray, List.set_cons_zero, List.set_cons_succ] at hK ⊢
          refine tell_do rfl ?_
          have cA := pw_cell_below hB cA; have cB := pw_cell_below hB cB; have cA2 := pw_cell_below hB cA2; have cB2 := pw_cell_below hB cB2
          go_simp
          exact hK _ (Below.refl _ _)
        case s31 =>
          intro W hB K hK
          simp only [tellK, Act.put, List.setIfInBounds_toArray, List.set_cons_zero, List.set_cons_succ] at hK ⊢
          refine tell_do rfl ?_
          have cA := pw_cell_below hB cA; have cB := pw_cell_below hB cB; have cA2 := pw_cell_below hB cA2; have cB2 := pw_cell_below hB cB2
          go_simp
          go_at_call 59; refine (hp.out _).mono ?_; rintro e w6 ⟨rfl, rfl⟩; exact hK _ (Below.refl _ _)
        case s32 =>
          intro W hB v28 h28 K hK
          replace h28 : Rb W v28 df := h28
          simp only [tellK, Act.put, List.setIfInBounds_toArray, List.set_cons_zero, List.set_cons_succ] at hK ⊢
          refine tell_do rfl ?_
          have cA := pw_cell_below hB cA; have cB := pw_cell_below hB cB; have cA2 := pw_cell_below hB cA2; have cB2 := pw_cell_below hB cB2
          go_simp
          go_at_call 76; refine (rEval_c _ df px _ h28).mono ?_; rintro e w6 ⟨rfl, rfl⟩; exact hK _ (Below.refl _ _)
        case s33 =>
          intro W hB K hK
          simp only [tellK, Act.put, List.setIfInBounds_toArray, List.set_cons_zero, List.set_cons_succ] at hK ⊢
          refine tell_do rfl ?_
          have cA := pw_cell_below hB cA; have cB := pw_cell_below hB cB; have cA2 := pw_cell_below hB cA2; have cB2 := pw_cell_below hB cB2
          go_simp
          exact hK _ (Below.refl _ _)
        case s34 =>
          intro W hB K hK
          simp only [tellK, Act.put, List.setIfInBounds_toArray, List.set_cons_zero, List.set_cons_succ] at hK ⊢
          refine tell_do rfl ?_
          have cA := pw_cell_below hB cA; have cB := pw_cell_below hB cB; have cA2 := pw_cell_below hB cA2; have cB2 := pw_cell_below hB cB2
          go_simp
          exact hK _ (Below.refl _ _)
        case hQ =>
          intro W hB v28 h28
          replace h28 : Rb W v28 df := h28
          simp only [tellGo, sayAt, List.getD_cons_zero, List.getD_cons_succ, Act.put, List.setIfInBounds_toArray, List.set_cons_zero, List.set_cons_succ]
          go_wp2
          exact ⟨⟨k + 1, by omega, by go_num, hb.trans (hB.mono hb.size)⟩, by simp [intOf]; try omega⟩
      · obtain rfl : NN = k := by omega
        have g1 : ¬ ((NN : Int) < (RA.length : Int)) := by rw [hAl.out]; omega
        replace HP := HP.below hb
        replace HR := HR.below hb
        replace ht := ht.below hb
        replace k0 := k0.below hb
        replace hF := hF.below hb
        replace sS := sS.below hb
        replace hB := bt_ hB hb
        clear hb hpair sA sB sD tA tB hAl hBl hRB hzm hT2 hT1 c0 c1 c2 c3 c4 c5
        have r0 := HR.cell 0 _ rfl
        go_wp2_with fail
        go_loopw [168] (fun i w2 => ∃ k : Nat, k ≤ z0.length ∧ i = .int .i64 k ∧ Below wr.heap.size wr w2) (fun i _ => z0.length - (intOf i).toNat)
        case atStart => exact ⟨0, by omega, rfl, Below.refl _ _⟩
        case round =>
          clear r0
          obtain ⟨kk, hkk, rfl, hb⟩ := hrel
          by_cases hlk : kk < z0.length
          · replace HP := HP.below hb
            have ht2 := ht.below hb
            have hF2 := hF.below hb
            have sS2 := sS.below hb
            obtain ⟨ad, rfl, d0⟩ := ki_at (rk_C (k0.below hb)) kk hlk
            have hmem : z0.getD kk 0 ∈ z0 := by rw [List.getD_eq_getElem?_getD, List.getElem?_eq_getElem hlk]; exact List.getElem_mem hlk
            have htg := hin.out _ hmem
            have hbm2 := hbm.out _ hmem
            generalize z0.getD kk 0 = tg at *
            replace hmem := Lib.hid hmem
            replace htg := Lib.hid htg
            replace hbm2 := Lib.hid hbm2
            have hW2 : Hid (WW * 1 ≤ (apM tape 0 (blindM p sh tg)).length) := Lib.hid (by rw [apM_len]; exact hW1.out)
            obtain ⟨RC, hRC⟩ : ∃ RC, RC = ((allOf p).map point).map (bsh WW (point tg) tape 1) := ⟨_, rfl⟩
            obtain ⟨RD, hRD⟩ : ∃ RD, RD = ((allOf p).map point).map (bsh WW (point tg) (apM tape 0 (blindM p sh tg)) 1) := ⟨_, rfl⟩
            have hCl : Hid (RC.length = NN) := Lib.hid (by rw [hRC, List.length_map, hNN.out]; exact hpl.out.1)
            have hDl : Hid (RD.length = NN) := Lib.hid (by rw [hRD, List.length_map, hNN.out]; exact hpl.out.1)
            have hpair : Hid (∀ k, k < NN → ∃ x y, RC.getD k [] = [x] ∧ RD.getD k [] = [y] ∧ x + y = F.ev (point ((k : Int) + 1)) sh) := Lib.hid (fun k hk => by
              have hk2 : k < ((allOf p).map point).length := by rw [hpl.out.1, ← hNN.out]; exact hk
              refine ⟨_, _, ?_, ?_, hbm2.out _⟩
              · rw [hRC, map_getD _ _ 0 [] _ hk2, pt_at p k hk2, bsh_one]
              · rw [hRD, map_getD _ _ 0 [] _ hk2, pt_at p k hk2, bsh_one])
            have tC : ((RC.length : Int) != p.N) = false := by rw [hCl.out, hpN.out]; simp
            have tD : ((RD.length : Int) != p.N) = false := by rw [hDl.out, hpN.out]; simp
            replace hRC := Lib.hid hRC
            replace hRD := Lib.hid hRD
            obtain ⟨c0, c1, c2, c3, c4, c5⟩ := cells6 HP
            go_wp2_with fail
            refine (bBlind_ok bF p h 1 tg (by decide) htg.out WW eW.out _ tape _ hF2 ht2 hW1.out).mono ?_
            rintro e w12 ⟨vC, rfl, sC, h12⟩
            replace sC := sC.rk
            rw [← hRC.out] at sC
            obtain ⟨zC, yC, rfl⟩ := rk_form sC
            clear c0 c1 c2 c3 c4 c5
            replace HP := HP.below h12
            replace ht2 := ht2.below h12
            replace hF2 := hF2.below h12
            replace sS2 := sS2.below h12
            replace hb := bt_ hb h12
            clear h12 d0
            go_wp2_with fail
            refine wp_region_tell [.p (isF), .v (planV p), .v (.int .i64 tg), .p (isB tape), .p (isF), .v (planV p), .p (isB sh), .v (.int .i64 tg), .p (isB (blindM p sh tg)), .p (isB (apM tape 0 (blindM p sh tg))), .p (isTBB RD (.int .i64 0)), .p (isTBB RD (.int .i64 0)), .p (isBB RD), .v (.int .i64 0), .p (isBB RD), .v (.int .i64 0)] [([], none), ([], none), ([], none), ([], none), ([], none), ([], none), ([], none), ([], none), ([(4, some 185), (5, some 186), (6, some 187), (7, some 188)], none), ([(3, some 184), (8, some 189)], none), ([(0, some 181), (1, some 182), (2, some 183), (9, some 190)], none), ([(10, some 191)], none), ([(11, some 180)], none), ([(11, some 180)], none), ([(12, some 192)], none), ([(13, some 193)], none)] [(0, some 181), (1, some 182), (2, some 183), (3, some 184), (4, some 185), (5, some 186), (6, some 187), (7, some 188), (8, some 189), (9, some 190), (10, some 191), (11, some 180), (12, some 192), (13, some 193), (14, some 24), (15, some 25)] (by kernel_rfl) (by kernel_rfl) (by kernel_rfl) (by kernel_rfl) (by exact ⟨last_F, trivial, trivial, last_B _, last_F, trivial, last_B _, trivial, last_B _, last_B _, last_TBB _ _, last_TBB _ _, last_BB _, trivial, last_BB _, trivial, trivial⟩) ⟨?s0, ?s1, ?s2, ?s3, ?s4, ?s5, ?s6, ?s7, ?s8, ?s9, ?s10, ?s11, ?s12, ?s13, ?s14, ?s15, trivial⟩ ?hQ
            case s0 =>
              intro W hB K hK
              simp only [tellK, Act.put, List.setIfInBounds_toArray, List.set_cons_zero, List.set_cons_succ] at hK ⊢
              refine tell_do rfl ?_
              obtain ⟨c0, c1, c2, c3, c4, c5⟩ := cells6 (HP.below hB)
              go_simp
              exact hK _ _ ⟨_, rfl, hF2.below hB⟩ (Below.refl _ _)
            case s1 =>
              intro W hB K hK
              simp only [tellK, Act.put, List.setIfInBounds_toArray, List.set_cons_zero, List.set_cons_succ] at hK ⊢
              refine tell_do rfl ?_
              obtain ⟨c0, c1, c2, c3, c4, c5⟩ := cells6 (HP.below hB)
              go_simp
              exact hK _ (Below.refl _ _)
            case s2 =>
              intro W hB K hK
              simp only [tellK, Act.put, List.setIfInBounds_toArray, List.set_cons_zero, List.set_cons_succ] at hK ⊢
              refine tell_do rfl ?_
              obtain ⟨c0, c1, c2, c3, c4, c5⟩ := cells6 (HP.below hB)
              go_simp
              exact hK _ (Below.refl _ _)
            case s3 =>
              intro W hB K hK
              simp only [tellK, Act.put, List.setIfInBounds_toArray, List.set_cons_zero, List.set_cons_succ] at hK ⊢
              refine tell_do rfl ?_
              obtain ⟨c0, c1, c2, c3, c4, c5⟩ := cells6 (HP.below hB)
              go_simp
              exact hK _ _ (ht2.below hB) (Below.refl _ _)
            case s4 =>
              intro W hB K hK
              simp only [tellK, Act.put, List.setIfInBounds_toArray, List.set_cons_zero, List.set_cons_succ] at hK ⊢
              refine tell_do rfl ?_
              obtain ⟨c0, c1, c2, c3, c4, c5⟩ := cells6 (HP.below hB)
              go_simp
              exact hK _ _ ⟨_, rfl, hF2.below hB⟩ (Below.refl _ _)
            case s5 =>
              intro W hB K hK
              simp only [tellK, Act.put, List.setIfInBounds_toArray, List.set_cons_zero, List.set_cons_succ] at hK ⊢
              refine tell_do rfl ?_
              obtain ⟨c0, c1, c2, c3, c4, c5⟩ := cells6 (HP.below hB)
              go_simp
              exact hK _ (Below.refl _ _)
            case s6 =>
              intro W hB K hK
              simp only [tellK, Act.put, List.setIfInBounds_toArray, List.set_cons_zero, List.set_cons_succ] at hK ⊢
              refine tell_do rfl ?_
              obtain ⟨c0, c1, c2, c3, c4, c5⟩ := cells6 (HP.below hB)
              go_simp
              exact hK _ _ (sS2.below hB) (Below.refl _ _)
            case s7 =>
              intro W hB K hK
              simp only [tellK, Act.put, List.setIfInBounds_toArray, List.set_cons_zero, List.set_cons_succ] at hK ⊢
              refine tell_do rfl ?_
              obtain ⟨c0, c1, c2, c3, c4, c5⟩ := cells6 (HP.below hB)
              go_simp
              exact hK _ (Below.refl _ _)
            case s8 =>
              intro W hB v4 h4 v6 h6 K hK
              obtain ⟨b4, rfl, h4⟩ := h4
              replace h6 : Rb W v6 sh := h6
              simp only [tellK, Act.put, List.setIfInBounds_toArray, List.set_cons_zero, List.set_cons_succ] at hK ⊢
              refine tell_do rfl ?_
              obtain ⟨c0, c1, c2, c3, c4, c5⟩ := cells6 (HP.below hB)
              go_simp
              go_at_call 142; refine (mBlind_c _ p h _ sh tg htg.out _ h4 h6 hsl.out).mono ?_; rintro e w6 ⟨v9, rfl, sA, h6⟩; exact hK _ _ sA.rk h6
            case s9 =>
              intro W hB v3 h3 v8 h8 K hK
              replace h3 : Rb W v3 tape := h3
              replace h8 : Rb W v8 (blindM p sh tg) := h8
              simp only [tellK, Act.put, List.setIfInBounds_toArray, List.set_cons_zero, List.set_cons_succ] at hK ⊢
              refine tell_do rfl ?_
              obtain ⟨c0, c1, c2, c3, c4, c5⟩ := cells6 (HP.below hB)
              go_simp
              go_at_call 143; refine (mApply_c _ _ tape (blindM p sh tg) 0 _ h3 h8 htl.out).mono ?_; rintro e w6 ⟨v9, rfl, sA, h6⟩; exact hK _ _ sA.rk h6
            case s10 =>
              intro W hB v0 h0 v9 h9 K hK
              obtain ⟨b0, rfl, h0⟩ := h0
              replace h9 : Rb W v9 (apM tape 0 (blindM p sh tg)) := h9
              simp only [tellK, Act.put, List.setIfInBounds_toArray, List.set_cons_zero, List.set_cons_succ] at hK ⊢
              refine tell_do rfl ?_
              obtain ⟨c0, c1, c2, c3, c4, c5⟩ := cells6 (HP.below hB)
              go_simp
              go_at_call 95; refine (bBlind_ok _ p h 1 tg (by decide) htg.out WW eW.out _ (apM tape 0 (blindM p sh tg)) _ h0 h9 hW2.out).mono ?_; rintro e w6 ⟨v9, rfl, sA, h6⟩; replace sA := sA.rk; rw [← hRD.out] at sA; exact hK _ _ ⟨_, rfl, sA⟩ h6
            case s11 =>
              intro W hB v10 h10 K hK
              obtain ⟨z10, rfl, h10⟩ := h10
              simp only [tellK, Act.put, List.setIfInBounds_toArray, List.set_cons_zero, List.set_cons_succ] at hK ⊢
              refine tell_do rfl ?_
              obtain ⟨c0, c1, c2, c3, c4, c5⟩ := cells6 (HP.below hB)
              go_simp
              exact hK _ _ ⟨_, rfl, h10⟩ (Below.refl _ _)
            case s12 =>
              intro W hB v11 h11 K hK
              obtain ⟨z11, rfl, h11⟩ := h11
              simp only [tellK, Act.put, List.setIfInBounds_toArray, List.set_cons_zero, List.set_cons_succ] at hK ⊢
              refine tell_do rfl ?_
              obtain ⟨c0, c1, c2, c3, c4, c5⟩ := cells6 (HP.below hB)
              go_simp
              exact hK _ _ h11 (Below.refl _ _)
            case s13 =>
              intro W hB v11 h11 K hK
              obtain ⟨z11, rfl, h11⟩ := h11
              simp only [tellK, Act.put, List.setIfInBounds_toArray, List.set_cons_zero, List.set_cons_succ] at hK ⊢
              refine tell_do rfl ?_
              obtain ⟨c0, c1, c2, c3, c4, c5⟩ := cells6 (HP.below hB)
              go_simp
              exact hK _ (Below.refl _ _)
            case s14 =>
              intro W hB v12 h12 K hK
              replace h12 : Rbb W v12 RD := h12
              simp only [tellK, Act.put, List.setIfInBounds_toArray, List.set_cons_zero, List.set_cons_succ] at hK ⊢
              refine tell_do rfl ?_
              obtain ⟨c0, c1, c2, c3, c4, c5⟩ := cells6 (HP.below hB)
              go_simp
              exact hK _ _ h12 (Below.refl _ _)
            case s15 =>
              intro W hB K hK
              simp only [tellK, Act.put, List.setIfInBounds_toArray, List.set_cons_zero, List.set_cons_succ] at hK ⊢
              refine tell_do rfl ?_
              obtain ⟨c0, c1, c2, c3, c4, c5⟩ := cells6 (HP.below hB)
              go_simp
              exact hK _ (Below.refl _ _)
            case hQ =>
              intro W hB v0 h0 v3 h3 v4 h4 v6 h6 v8 h8 v9 h9 v10 h10 v11 h11 v12 h12 v14 h14
              obtain ⟨b0, rfl, h0⟩ := h0
              replace h3 : Rb W v3 tape := h3
              obtain ⟨b4, rfl, h4⟩ := h4
              replace h6 : Rb W v6 sh := h6
              replace h8 : Rb W v8 (blindM p sh tg) := h8
              replace h9 : Rb W v9 (apM tape 0 (blindM p sh tg)) := h9
              obtain ⟨z10, rfl, h10⟩ := h10
              obtain ⟨z11, rfl, h11⟩ := h11
              replace h12 : Rbb W v12 RD := h12
              replace h14 : Rbb W v14 RD := h14
              simp only [tellGo, sayAt, List.getD_cons_zero, List.getD_cons_succ, Act.put, List.setIfInBounds_toArray, List.set_cons_zero, List.set_cons_succ]
              have sD : Rbb W v14 RD := h14
              replace HP := HP.below hB
              replace sS2 := sS2.below hB
              replace sC := sC.below hB
              replace hb := bt_ hb hB
              obtain ⟨zD, yD, rfl⟩ := rk_form sD
              clear hB h0 h3 h4 h6 h8 h9 h10 h11 h12 h14
              obtain ⟨c0, c1, c2, c3, c4, c5⟩ := cells6 HP
              go_wp2_with fail
              go_loopw [216] (fun i w3 => ∃ k : Nat, k ≤ NN ∧ i = .int .i64 k ∧ Below W.heap.size W w3) (fun i _ => NN - (intOf i).toNat)
              case atStart => exact ⟨0, by omega, rfl, Below.refl _ _⟩
              case round =>
                clear c0 c1 c2 c3 c4 c5
                obtain ⟨k, hk, rfl, hb3⟩ := hrel
                by_cases hlt : k < NN
                · have g1 : (k : Int) < (RC.length : Int) := by rw [hCl.out]; omega
                  have g2 : (k : Int) < (RD.length : Int) := by rw [hDl.out]; omega
                  have hb := hb3
                  obtain ⟨x, y, e1', e2', e3'⟩ := hpair.out k hlt
                  obtain ⟨aA, dA, mA, rfl, cA, cA2⟩ := one_rowS (sC.below hb) k (by rw [hCl.out]; exact hlt) x e1'
                  obtain ⟨aB, dB, mB, rfl, cB, cB2⟩ := one_rowS (sD.below hb) k (by rw [hDl.out]; exact hlt) y e2'
                  have hp := fun w => rPoint_c ((k : Int) + 1) w
                  generalize point ((k : Int) + 1) = px at *
                  have X1 := xor8 x y
                  have t5 : (((x + y).n : Int) != ((F.ev px sh).n : Int)) = false := by rw [e3']; simp
                  replace hp := Lib.hid hp
                  have sX := sS2.below hb
                  have hk9 : (k : Int) < 1000 := by have := hpN.out; have := hr9.out; omega
                  have u3 : IntKind.i64.wrap ((k : Int) + 1) = (k : Int) + 1 := wrapI _ (by omega) (by omega)
                  clear e1' e2' e3'
                  go_wp2_with fail
                  refine wp_region_tell [.v (.slice (some aA) RC.length yC), .v (.int .i64 k), .v (.pointer (some (aA.add k))), .v (.slice (some dA) 1 mA), .v (.int .i64 1), .v (.bool false), .v (.bool false), .v (.slice (some aB) RD.length yD), .v (.int .i64 k), .v (.pointer (some (aB.add k))), .v (.slice (some dB) 1 mB), .v (.int .i64 1), .v (.bool false), .v (.bool false), .v (.bool false), .v (.slice (some aA) RC.length yC), .v (.int .i64 k), .v (.pointer (some (aA.add k))), .v (.slice (some dA) 1 mA), .v (.pointer (some dA)), .v (.int .u8 (x.n : Int)), .v (.slice (some aB) RD.length yD), .v (.int .i64 k), .v (.pointer (some (aB.add k))), .v (.slice (some dB) 1 mB), .v (.pointer (some dB)), .v (.int .u8 (y.n : Int)), .v (.int .u8 ((x + y).n : Int)), .p (isB sh), .v (.int .i64 k), .v (.int .i64 ((k : Int) + 1)), .v (.int .u8 (px.n : Int)), .v (.int .u8 ((F.ev px sh).n : Int)), .v (.bool false), .v (.bool false)] [([], none), ([], none), ([(0, some 219), (1, some 220)], none), ([(2, some 221)], none), ([(3, some 222)], none), ([(4, some 223)], none), ([(5, some 224)], none), ([(6, some 225)], some (some 225, false)), ([(6, some 225)], some (some 225, false)), ([(6, some 225), (7, some 226), (8, some 227)], some (some 225, false)), ([(6, some 225), (9, some 228)], some (some 225, false)), ([(6, some 225), (10, some 229)], some (some 225, false)), ([(6, some 225), (11, some 230)], some (some 225, false)), ([(6, some 225), (12, some 231)], none), ([(13, some 232)], none), ([(14, some 233)], some (some 233, false)), ([(14, some 233)], some (some 233, false)), ([(14, some 233), (15, some 234), (16, some 235)], some (some 233, false)), ([(14, some 233), (17, some 236)], some (some 233, false)), ([(14, some 233), (18, some 237)], some (some 233, false)), ([(14, some 233), (19, some 238)], some (some 233, false)), ([(14, some 233)], some (some 233, false)), ([(14, some 233)], some (some 233, false)), ([(14, some 233), (21, some 240), (22, some 241)], some (some 233, false)), ([(14, some 233), (23, some 242)], some (some 233, false)), ([(14, some 233), (24, some 243)], some (some 233, false)), ([(14, some 233), (25, some 244)], some (some 233, false)), ([(14, some 233), (20, some 239), (26, some 245)], some (some 233, false)), ([(14, some 233)], some (some 233, false)), ([(14, some 233)], some (some 233, false)), ([(14, some 233), (29, some 248)], some (some 233, false)), ([(14, some 233), (30, some 249)], some (some 233, false)), ([(14, some 233), (28, some 247), (31, some 250)], some (some 233, false)), ([(14, some 233), (27, some 246), (32, some 251)], some (some 233, false)), ([(14, some 233), (33, some 252)], none)] [(0, some 219), (1, some 220), (2, some 221), (3, some 222), (4, some 223), (5, some 224), (6, some 225), (7, some 226), (8, some 227), (9, some 228), (10, some 229), (11, some 230), (12, some 231), (13, some 232), (14, some 233), (15, some 234), (16, some 235), (17, some 236), (18, some 237), (19, some 238), (20, some 239), (21, some 240), (22, some 241), (23, some 242), (24, some 243), (25, some 244), (26, some 245), (27, some 246), (28, some 247), (29, some 248), (30, some 249), (31, some 250), (32, some 251), (33, some 252), (34, some 253)] (by kernel_rfl) (by kernel_rfl) (by kernel_rfl) (by kernel_rfl) (by exact ⟨trivial, trivial, trivial, trivial, trivial, trivial, trivial, trivial, trivial, trivial, trivial, trivial, trivial, trivial, trivial, trivial, trivial, trivial, trivial, trivial, trivial, trivial, trivial, trivial, trivial, trivial, trivial, trivial, last_B _, trivial, trivial, trivial, trivial, trivial, trivial, trivial⟩) ⟨?s0, ?s1, ?s2, ?s3, ?s4, ?s5, ?s6, ?s7, ?s8, ?s9, ?s10, ?s11, ?s12, ?s13, ?s14, ?s15, ?s16, ?s17, ?s18, ?s19, ?s20, ?s21, ?s22, ?s23, ?s24, ?s25, ?s26, ?s27, ?s28, ?s29, ?s30, ?s31, ?s32, ?s33, ?s34, trivial⟩ ?hQ
                  case s0 =>
                    intro W hB K hK
                    simp only [tellK, Act.put, List.setIfInBounds_toArray, List.set_cons_zero, List.set_cons_succ] at hK ⊢
                    refine tell_do rfl ?_
                    have cA := pw_cell_below hB cA; have cB := pw_cell_below hB cB; have cA2 := pw_cell_below hB cA2; have cB2 := pw_cell_below hB cB2
                    go_simp
                    exact hK _ (Below.refl _ _)
                  case s1 =>
                    intro W hB K hK
                    simp only [tellK, Act.put, List.setIfInBounds_toArray, List.set_cons_zero, List.set_cons_succ] at hK ⊢
                    refine tell_do rfl ?_
                    have cA := pw_cell_below hB cA; have cB := pw_cell_below hB cB; have cA2 := pw_cell_below hB cA2; have cB2 := pw_cell_below hB cB2
                    go_simp
                    exact hK _ (Below.refl _ _)
                  case s2 =>
                    intro W hB K hK
                    simp only [tellK, Act.put, List.setIfInBounds_toArray, List.set_cons_zero, List.set_cons_succ] at hK ⊢
                    refine tell_do rfl ?_
                    have cA := pw_cell_below hB cA; have cB := pw_cell_below hB cB; have cA2 := pw_cell_below hB cA2; have cB2 := pw_cell_below hB cB2
                    go_simp
                    exact hK _ (Below.refl _ _)
                  case s3 =>
                    intro W hB K hK
                    simp only [tellK, Act.put, List.setIfInBounds_toArray, List.set_cons_zero, List.set_cons_succ] at hK ⊢
                    refine tell_do rfl ?_
                    have cA := pw_cell_below hB cA; have cB := pw_cell_below hB cB; have cA2 := pw_cell_below hB cA2; have cB2 := pw_cell_below hB cB2
                    go_simp
                    exact hK _ (Below.refl _ _)
                  case s4 =>
                    intro W hB K hK
                    simp only [tellK, Act.put, List.setIfInBounds_toArray, List.set_cons_zero, List.set_cons_succ] at hK ⊢
                    refine tell_do rfl ?_
                    have cA := pw_cell_below hB cA; have cB := pw_cell_below hB cB; have cA2 := pw_cell_below hB cA2; have cB2 := pw_cell_below hB cB2
                    go_simp
                    exact hK _ (Below.refl _ _)
                  case s5 =>
                    intro W hB K hK
                    simp only [tellK, Act.put, List.setIfInBounds_toArray, List.set_cons_zero, List.set_cons_succ] at hK ⊢
                    refine tell_do rfl ?_
                    have cA := pw_cell_below hB cA; have cB := pw_cell_below hB cB; have cA2 := pw_cell_below hB cA2; have cB2 := pw_cell_below hB cB2
                    go_simp
                    exact hK _ (Below.refl _ _)
                  case s6 =>
                    intro W hB K hK
                    simp only [tellK, Act.put, List.setIfInBounds_toArray, List.set_cons_zero, List.set_cons_succ] at hK ⊢
                    refine tell_do rfl ?_
                    have cA := pw_cell_below hB cA; have cB := pw_cell_below hB cB; have cA2 := pw_cell_below hB cA2; have cB2 := pw_cell_below hB cB2
                    go_simp
                    exact hK _ (Below.refl _ _)
                  case s7 =>
                    intro W hB K hK
                    simp only [tellK, Act.put, List.setIfInBounds_toArray, List.set_cons_zero, List.set_cons_succ] at hK ⊢
                    refine tell_do rfl ?_
                    have cA := pw_cell_below hB cA; have cB := pw_cell_below hB cB; have cA2 := pw_cell_below hB cA2; have cB2 := pw_cell_below hB cB2
                    go_simp
                    exact hK _ (Below.refl _ _)
                  case s8 =>
                    intro W hB K hK
                    simp only [tellK, Act.put, List.setIfInBounds_toArray, List.set_cons_zero, List.set_cons_succ] at hK ⊢
                    refine tell_do rfl ?_
                    have cA := pw_cell_below hB cA; have cB := pw_cell_below hB cB; have cA2 := pw_cell_below hB cA2; have cB2 := pw_cell_below hB cB2
                    go_simp
                    exact hK _ (Below.refl _ _)
                  case s9 =>
                    intro W hB K hK
                    simp only [tellK, Act.put, List.setIfInBounds_toArray, List.set_cons_zero, List.set_cons_succ] at hK ⊢
                    refine tell_do rfl ?_
                    have cA := pw_cell_below hB cA; have cB := pw_cell_below hB cB; have cA2 := pw_cell_below hB cA2; have cB2 := pw_cell_below hB cB2
                    go_simp
                    exact hK _ (Below.refl _ _)
                  case s10 =>
                    intro W hB K hK
                    simp only [tellK, Act.put, List.setIfInBounds_toArray, List.set_cons_zero, List.set_cons_succ] at hK ⊢
                    refine tell_do rfl ?_
                    have cA := pw_cell_below hB cA; have cB := pw_cell_below hB cB; have cA2 := pw_cell_below hB cA2; have cB2 := pw_cell_below hB cB2
                    go_simp
                    exact hK _ (Below.refl _ _)
                  case s11 =>
                    intro W hB K hK
                    simp only [tellK, Act.put, List.setIfInBounds_toArray, List.set_cons_zero, List.set_cons_succ] at hK ⊢
                    refine tell_do rfl ?_
                    have cA := pw_cell_below hB cA; have cB := pw_cell_below hB cB; have cA2 := pw_cell_below hB cA2; have cB2 := pw_cell_below hB cB2
                    go_simp
                    exact hK _ (Below.refl _ _)
                  case s12 =>
                    intro W hB K hK
                    simp only [tellK, Act.put, List.setIfInBounds_toArray, List.set_cons_zero, List.set_cons_succ] at hK ⊢
                    refine tell_do rfl ?_
                    have cA := pw_cell_below hB cA; have cB := pw_cell_below hB cB; have cA2 := pw_cell_below hB cA2; have cB2 := pw_cell_below hB cB2
                    go_simp
                    exact hK _ (Below.refl _ _)
                  case s13 =>
                    intro W hB K hK
                    simp only [tellK, Act.put, List.setIfInBounds_toArray, List.set_cons_zero, List.set_cons_succ] at hK ⊢
                    refine tell_do rfl ?_
                    have cA := pw_cell_below hB cA; have cB := pw_cell_below hB cB; have cA2 := pw_cell_below hB cA2; have cB2 := pw_cell_below hB cB2
                    go_simp
                    exact hK _ (Below.refl _ _)
                  case s14 =>
                    intro W hB K hK
                    simp only [tellK, Act.put, List.setIfInBounds_toArray, List.set_cons_zero, List.set_cons_succ] at hK ⊢
                    refine tell_do rfl ?_
                    have cA := pw_cell_below hB cA; have cB := pw_cell_below hB cB; have cA2 := pw_cell_below hB cA2; have cB2 := pw_cell_below hB cB2
                    go_simp
                    exact hK _ (Below.refl _ _)
                  case s15 =>
                    intro W hB K hK
                    simp only [tellK, Act.put, List.setIfInBounds_toArray, List.set_cons_zero, List.set_cons_succ] at hK ⊢
                    refine tell_do rfl ?_
                    have cA := pw_cell_below hB cA; have cB := pw_cell_below hB cB; have cA2 := pw_cell_below hB cA2; have cB2 := pw_cell_below hB cB2
                    go_simp
                    exact hK _ (Below.refl _ _)
                  case s16 =>
                    intro W hB K hK
                    simp only [tellK, Act.put, List.setIfInBounds_toArray, List.set_cons_zero, List.set_cons_succ] at hK ⊢
                    refine tell_do rfl ?_
                    have cA := pw_cell_below hB cA; have cB := pw_cell_below hB cB; have cA2 := pw_cell_below hB cA2; have cB2 := pw_cell_below hB cB2
                    go_simp
                    exact hK _ (Below.refl _ _)
                  case s17 =>
                    intro W hB K hK
                    simp only [tellK, Act.put, List.setIfInBounds_toArray, List.set_cons_zero, List.set_cons_succ] at hK ⊢
                    refine tell_do rfl ?_
                    have cA := pw_cell_below hB cA; have cB := pw_cell_below hB cB; have cA2 := pw_cell_below hB cA2; have cB2 := pw_cell_below hB cB2
                    go_simp
                    exact hK _ (Below.refl _ _)
                  case s18 =>
                    intro W hB K hK
                    simp only [tellK, Act.put, List.setIfInBounds_toArray, List.set_cons_zero, List.set_cons_succ] at hK ⊢
                    refine tell_do rfl ?_
                    have cA := pw_cell_below hB cA; have cB := pw_cell_below hB cB; have cA2 := pw_cell_below hB cA2; have cB2 := pw_cell_below hB cB2
                    go_simp
                    exact hK _ (Below.refl _ _)
                  case s19 =>
                    intro W hB K hK
                    simp only [tellK, Act.put, List.setIfInBounds_toArray, List.set_cons_zero, List.set_cons_succ] at hK ⊢
                    refine tell_do rfl ?_
                    have cA := pw_cell_below hB cA; have cB := pw_cell_below hB cB; have cA2 := pw_cell_below hB cA2; have cB2 := pw_cell_below hB cB2
                    go_simp
                    exact hK _ (Below.refl _ _)
                  case s20 =>
                    intro W hB K hK
                    simp only [tellK, Act.put, List.setIfInBounds_toArray, List.set_cons_zero, List.set_cons_succ] at hK ⊢
                    refine tell_do rfl ?_
                    have cA := pw_cell_below hB cA; have cB := pw_cell_below hB cB; have cA2 := pw_cell_below hB cA2; have cB2 := pw_cell_below hB cB2
                    go_simp
                    exact hK _ (Below.refl _ _)
                  case s21 =>
                    intro W hB K hK
                    simp only [tellK, Act.put, List.setIfInBounds_toArray, List.set_cons_zero, List.set_cons_succ] at hK ⊢
                    refine tell_do rfl ?_
                    have cA := pw_cell_below hB cA; have cB := pw_cell_below hB cB; have cA2 := pw_cell_below hB cA2; have cB2 := pw_cell_below hB cB2
                    go_simp
                    exact hK _ (Below.refl _ _)
                  case s22 =>
                    intro W hB K hK
                    simp only [tellK, Act.put, List.setIfInBounds_toArray, List.set_cons_zero, List.set_cons_succ] at hK ⊢
                    refine tell_do rfl ?_
                    have cA := pw_cell_below hB cA; have cB := pw_cell_below hB cB; have cA2 := pw_cell_below hB cA2; have cB2 := pw_cell_below hB cB2
                    go_simp
                    exact hK _ (Below.refl _ _)
                  case s23 =>
                    intro W hB K hK
                    simp only [tellK, Act.put, List.setIfInBounds_toArray, List.set_cons_zero, List.set_cons_succ] at hK ⊢
                    refine tell_do rfl ?_
                    have cA := pw_cell_below hB cA; have cB := pw_cell_below hB cB; have cA2 := pw_cell_below hB cA2; have cB2 := pw_cell_below hB cB2
                    go_simp
                    exact hK _ (Below.refl _ _)
                  case s24 =>
                    intro W hB K hK
                    simp only [tellK, Act.put, List.setIfInBounds_toArray, List.set_cons_zero, List.set_cons_succ] at hK ⊢
                    refine tell_do rfl ?_
                    have cA := pw_cell_below hB cA; have cB := pw_cell_below hB cB; have cA2 := pw_cell_below hB cA2; have cB2 := pw_cell_below hB cB2
                    go_simp
                    exact hK _ (Below.refl _ _)
                  case s25 =>
                    intro W hB K hK
                    simp only [tellK, Act.put, List.setIfInBounds_toArray, List.set_cons_zero, List.set_cons_succ] at hK ⊢
                    refine tell_do rfl ?_
                    have cA := pw_cell_below hB cA; have cB := pw_cell_below hB cB; have cA2 := pw_cell_below hB cA2; have cB2 := pw_cell_below hB cB2
                    go_simp
                    exact hK _ (Below.refl _ _)
                  case s26 =>
                    intro W hB K hK
                    simp only [tellK, Act.put, List.setIfInBounds_toArray, List.set_cons_zero, List.set_cons_succ] at hK ⊢
                    refine tell_do rfl ?_
                    have cA := pw_cell_below hB cA; have cB := pw_cell_below hB cB; have cA2 := pw_cell_below hB cA2; have cB2 := pw_cell_below hB cB2
                    go_simp
                    exact hK _ (Below.refl _ _)
                  case s27 =>
                    intro W hB K hK
                    simp only [tellK, Act.put, List.setIfInBounds_toArray, List.set_cons_zero, List.set_cons_succ] at hK ⊢
                    refine tell_do rfl ?_
                    have cA := pw_cell_below hB cA; have cB := pw_cell_below hB cB; have cA2 := pw_cell_below hB cA2; have cB2 := pw_cell_below hB cB2
                    go_simp
                    exact hK _ (Below.refl _ _)
                  case s28 =>
                    intro W hB K hK
                    simp only [tellK, Act.put, List.setIfInBounds_toArray, List.set_cons_zero, List.set_cons_succ] at hK ⊢
                    refine tell_do rfl ?_
                    have cA := pw_cell_below hB cA; have cB := pw_cell_below hB cB; have cA2 := pw_cell_below hB cA2; have cB2 := pw_cell_below hB cB2
                    go_simp
                    exact hK _ _ (sX.below hB) (Below.refl _ _)
                  case s29 =>
                    intro W hB K hK
                    simp only [tellK, Act.put, List.setIfInBounds_toArray, List.set_cons_zero, List.set_cons_succ] at hK ⊢
                    refine tell_do rfl ?_
                    have cA := pw_cell_below hB cA; have cB := pw_cell_below hB cB; have cA2 := pw_cell_below hB cA2; have cB2 := pw_cell_below hB cB2
                    go_simp
                    exact hK _ (Below.refl _ _)
                  case s30 =>
                    intro W hB K hK
                    simp only [tellK, Act.put, List.setIfInBounds_toArray, List.set_cons_zero, List.set_cons_succ] at hK ⊢
                    refine tell_do rfl ?_
                    have cA := pw_cell_below hB cA; have cB := pw_cell_below hB cB; have cA2 := pw_cell_below hB cA2; have cB2 := pw_cell_below hB cB2
                    go_simp
                    exact hK _ (Below.refl _ _)
                  case s31 =>
                    intro W hB K hK
                    simp only [tellK, Act.put, List.setIfInBounds_toArray, List.set_cons_zero, List.set_cons_succ] at hK ⊢
                    refine tell_do rfl ?_
                    have cA := pw_cell_below hB cA; have cB := pw_cell_below hB cB; have cA2 := pw_cell_below hB cA2; have cB2 := pw_cell_below hB cB2
                    go_simp
                    go_at_call 59; refine (hp.out _).mono ?_; rintro e w6 ⟨rfl, rfl⟩; exact hK _ (Below.refl _ _)
                  case s32 =>
                    intro W hB v28 h28 K hK
                    replace h28 : Rb W v28 sh := h28
                    simp only [tellK, Act.put, List.setIfInBounds_toArray, List.set_cons_zero, List.set_cons_succ] at hK ⊢
                    refine tell_do rfl ?_
                    have cA := pw_cell_below hB cA; have cB := pw_cell_below hB cB; have cA2 := pw_cell_below hB cA2; have cB2 := pw_cell_below hB cB2
                    go_simp
                    go_at_call 76; refine (rEval_c _ sh px _ h28).mono ?_; rintro e w6 ⟨rfl, rfl⟩; exact hK _ (Below.refl _ _)
                  case s33 =>
                    intro W hB K hK
                    simp only [tellK, Act.put, List.setIfInBounds_toArray, List.set_cons_zero, List.set_cons_succ] at hK ⊢
                    refine tell_do rfl ?_
                    have cA := pw_cell_below hB cA; have cB := pw_cell_below hB cB; have cA2 := pw_cell_below hB cA2; have cB2 := pw_cell_below hB cB2
                    go_simp
                    exact hK _ (Below.refl _ _)
                  case s34 =>
                    intro W hB K hK
                    simp only [tellK, Act.put, List.setIfInBounds_toArray, List.set_cons_zero, List.set_cons_succ] at hK ⊢
                    refine tell_do rfl ?_
                    have cA := pw_cell_below hB cA; have cB := pw_cell_below hB cB; have cA2 := pw_cell_below hB cA2; have cB2 := pw_cell_below hB cB2
                    go_simp
                    exact hK _ (Below.refl _ _)
                  case hQ =>
                    intro W hB v28 h28
                    replace h28 : Rb W v28 sh := h28
                    simp only [tellGo, sayAt, List.getD_cons_zero, List.getD_cons_succ, Act.put, List.setIfInBounds_toArray, List.set_cons_zero, List.set_cons_succ]
                    go_wp2
                    exact ⟨⟨k + 1, by omega, by go_num, hb.trans (hB.mono hb.size)⟩, by simp [intOf]; try omega⟩
                · obtain rfl : NN = k := by omega
                  have g1 : ¬ ((NN : Int) < (RC.length : Int)) := by rw [hCl.out]; omega
                  have hb := bt_ hb hb3
                  go_wp2
                  exact ⟨⟨kk + 1, by omega, by go_num, hb⟩, by simp [intOf]; try omega⟩
          · obtain rfl : kk = z0.length := by omega
            replace hB := bt_ hB hb
            go_wp2_with fail
            refine (alive14 _).mono ?_
            rintro e w9 ⟨rfl, h⟩
            have hB := bt_ hB h
            clear h
            go_wp2
            go_ret
            exact ⟨rfl, hB⟩
theorem MaskMoves_walk (w : World) (N : Int) (hN : -9223372036854775808 ≤ N ∧ N ≤ 9223372036854775807) (T : Int) (hT : -9223372036854775808 ≤ T ∧ T ≤ 9223372036854775807) (L : Int) (hL : -9223372036854775808 ≤ L ∧ L ≤ 9223372036854775807) (W : Int) (hW : -9223372036854775808 ≤ W ∧ W ≤ 9223372036854775807) (S : Int) (hS : -9223372036854775808 ≤ S ∧ S ≤ 9223372036854775807) (R : Int) (hR : -9223372036854775808 ≤ R ∧ R ≤ 9223372036854775807)
    (dv : Value) (d : List F) (hd : Rb w dv d) (bd : d.length ≤ 140737488351232) (tv : Value) (tape : List F) (ht : Rb w tv tape) (bt : tape.length ≤ 140737488351232) (y0 : Value) (z0 : List Int) (k0 : Ri w y0 z0) (q0 : ∀ y ∈ z0, I64 y) (b0 : z0.length ≤ 17592186043904) (y1 : Value) (z1 : List Int) (k1 : Ri w y1 z1) (q1 : ∀ y ∈ z1, I64 y) (b1 : z1.length ≤ 17592186043904) :
   Calls Try.prog 34 #[.agg #[.int .i64 N, .int .i64 T, .int .i64 L, .int .i64 W, .int .i64 S, .int .i64 R], .agg #[dv, tv], .agg #[y0, y1]] w fun e w' => e = .returned (.bool true) ∧ Below w.heap.size w w' := by
  by_cases hf : Lite ⟨N, T, L, W, S, R⟩ ∧ (Pl.mk N T L W S R).Ok ∧ maE ⟨N, T, L, W, S, R⟩ d.length z0 = 0 ∧ maE ⟨N, T, L, W, S, R⟩ d.length z1 = 0 ∧ T + L - 1 ≤ (tape.length : Int)
  · exact maskMoves_ok ⟨N, T, L, W, S, R⟩ ⟨hN, hT, hL, hW, hS, hR⟩ dv tv y0 y1 d tape z0 z1 w hd ht k0 k1 hf.1 hf.2.1 hf.2.2.1 hf.2.2.2.1 hf.2.2.2.2 bt
  · exact maskMoves_far ⟨N, T, L, W, S, R⟩ ⟨hN, hT, hL, hW, hS, hR⟩ dv tv y0 y1 d tape z0 z1 w hd ht k0 k1 hf
end Go.Proofs.Ytijeabhfddaoaaa
