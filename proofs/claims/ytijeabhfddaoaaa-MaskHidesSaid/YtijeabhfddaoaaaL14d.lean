/- The walks of the laws of layer 14 (masks): MaskMasks. -/
import Derived.Test.YtijeabhfddaoaaaL14c
import Derived.Test.YtijeabhfddaoaaaR14c
namespace Go.Proofs.Ytijeabhfddaoaaa
set_option linter.unusedVariables false
open Go.RowKit Go.Proofs.YtijeabhfddaoaaaW.PrintWords Go.Proofs.Sh

/-- A mask added to a tape: as far as its k-th byte. -/
def wnt (t : List F) (a : Int) (m : List F) (k : Nat) : List F := if 0 ≤ a then apTo t a.toNat m k else t
theorem wnt_len (t : List F) (a : Int) (m : List F) (k : Nat) : (wnt t a m k).length = t.length := by
  unfold wnt; split
  · exact apTo_len _ _ _ _
  · rfl
theorem wnt_0 (t : List F) (a : Int) (m : List F) : wnt t a m 0 = t := by
  unfold wnt; split
  · exact apTo_0 _ _ _
  · rfl
theorem wnt_skip (t : List F) (a : Int) (m : List F) (k : Nat) (h : ¬ (0 ≤ a ∧ a < (t.length : Int) - k)) : wnt t a m (k + 1) = wnt t a m k := by
  unfold wnt
  split
  · apply F.ext_at (by rw [apTo_len, apTo_len])
    intro j hj
    rw [apTo_len] at hj
    show (apTo t a.toNat m (k + 1)).getD j 0 = (apTo t a.toNat m k).getD j 0
    rw [apTo_at _ _ _ _ _ hj, apTo_at _ _ _ _ _ hj]
    by_cases g : a.toNat ≤ j ∧ j < a.toNat + k
    · rw [if_pos g, if_pos (by omega)]
    · rw [if_neg g, if_neg (by omega)]
  · rfl
theorem wnt_set (t : List F) (a : Nat) (m : List F) (k : Nat) (h : a + k < t.length) : (wnt t a m k).set (a + k) ((wnt t a m k).getD (a + k) 0 + m.getD k 0) = wnt t a m (k + 1) := by
  unfold wnt
  rw [if_pos (by omega), if_pos (by omega), Int.toNat_natCast]
  exact apTo_set t a m k h
theorem wnt_all (t : List F) (a : Int) (m : List F) : wnt t a m m.length = apM t a m := by
  unfold wnt
  split
  · apply F.ext_at (by rw [apTo_len, apM_len])
    intro j hj
    rw [apTo_len] at hj
    show (apTo t a.toNat m m.length).getD j 0 = (apM t a m).getD j 0
    rw [apTo_at _ _ _ _ _ hj, apM_at _ _ _ _ hj]
    by_cases g : a.toNat ≤ j ∧ j < a.toNat + m.length
    · rw [if_pos g, if_pos (by omega)]
    · rw [if_neg g]
      by_cases g2 : 0 ≤ a ∧ a ≤ (j : Int)
      · have e : m.getD (j - a.toNat) 0 = 0 := by
          rw [List.getD_eq_getElem?_getD, List.getElem?_eq_none (by omega)]
          rfl
        rw [if_pos g2, e]
      · rw [if_neg g2]
  · exact (apM_out _ _ _ (by omega)).symm
theorem mApply_c (v u : Value) (t m : List F) (a : Int) (w : World) (hv : Rb w v t) (hu : Rb w u m) (hl : t.length ≤ 140737488351232) :
   Calls Try.prog 143 #[v, .int .i64 a, u] w fun e w' => ∃ z, e = .returned z ∧ Ob w w' z (apM t a m) ∧ Below w.heap.size w w' := by
  by_cases h : a < 0 ∨ (t.length : Int) < a
  · exact mApply_out v u t m a w hv hl h
  · obtain ⟨k, rfl⟩ : ∃ k : Nat, a = (k : Int) := ⟨a.toNat, by omega⟩
    by_cases h2 : k < t.length
    · exact mApply_in v u t m k w hv hu hl h2
    · obtain rfl : k = t.length := by omega
      exact mApply_end v u t m w hv hu hl
theorem rSameB_c (v u : Value) (l m : List F) (w : World) (hv : Rb w v l) (hu : Rb w u m) : Calls Try.prog 60 #[v, u] w fun e w' => e = .returned (.bool (decide (l = m))) ∧ Below w.heap.size w w' :=
  (rSame_c v u l m w hv hu).mono fun _ _ h => ⟨h.1, h.2.below⟩
set_option maxRecDepth 100000 in
set_option maxHeartbeats 3200000 in
theorem maskMasks_far (p : Pl) (dv sv tv : Value) (d s t : List F) (tg at' : Int) (w : World) (hd : Rb w dv d) (hs : Rb w sv s) (ht : Rb w tv t) (h : ¬ (Lite p ∧ d.length ≤ 20 ∧ s.length ≤ 30 ∧ t.length ≤ 60)) :
   Calls Try.prog 31 #[planV p, .agg #[dv, sv, tv], .agg #[.int .i64 tg, .int .i64 at']] w fun e w' => e = .returned (.bool true) ∧ Below w.heap.size w w' := by
  by_cases hL : Lite p
  · have hL2 := Lib.hid (decide_eq_true hL)
    by_cases h1 : d.length ≤ 20
    · have t1 : decide ((20 : Int) < (d.length : Int)) = false := decide_eq_false (by omega)
      by_cases h2 : s.length ≤ 30
      · have t2 : decide ((30 : Int) < (s.length : Int)) = false := decide_eq_false (by omega)
        have t3 : decide ((60 : Int) < (t.length : Int)) = true := decide_eq_true (by
          have : ¬ t.length ≤ 60 := fun e => h ⟨hL, h1, h2, e⟩
          omega)
        clear h
        have HP := (Blk.new w (planC p) 33).alloc (.cells #[dv, sv, tv] 116)
        have HP := HP.alloc (.cells #[.int .i64 tg, .int .i64 at'] 77)
        have HQ := (Blk.new' (w.alloc (.cells (planC p) 33)) #[dv, sv, tv] 116 (World.size_alloc w _)).alloc (.cells #[.int .i64 tg, .int .i64 at'] 77)
        have HR := Blk.new' ((w.alloc (.cells (planC p) 33)).alloc (.cells #[dv, sv, tv] 116)) #[.int .i64 tg, .int .i64 at'] 77 (by rw [World.size_alloc, World.size_alloc])
        have hB := below_alloc (below_alloc (below_alloc (Below.refl w.heap.size w) (.cells (planC p) 33)) (.cells #[dv, sv, tv] 116)) (.cells #[.int .i64 tg, .int .i64 at'] 77)
        have hd := hd.below hB
        have hs := hs.below hB
        have ht := ht.below hB
        obtain ⟨Ad, cd, rfl⟩ := rk_form hd
        obtain ⟨As, cs, rfl⟩ := rk_form hs
        obtain ⟨At, ct, rfl⟩ := rk_form ht
        have hld := kb_len (rk_C hd)
        have hls := kb_len (rk_C hs)
        have hlt := kb_len (rk_C ht)
        have hL := hL2
        go_enter Try.func31, Try.ntmps31
        go_wp2_with fail
        generalize ((w.alloc (.cells (planC p) 33)).alloc (.cells #[.slice Ad d.length cd, .slice As s.length cs, .slice At t.length ct] 116)).alloc (.cells #[.int .i64 tg, .int .i64 at'] 77) = w1 at *
        have q0 := HQ.cell 0 _ rfl
        have q1 := HQ.cell 1 _ rfl
        have q2 := HQ.cell 2 _ rfl
        go_quiet (fail)
        have HP := HP.below (pw_below_drewN (Below.refl _ _) nq)
        have HR := HR.below (pw_below_drewN (Below.refl _ _) nq)
        have hd := hd.drewN nq
        have hs := hs.drewN nq
        have ht := ht.drewN nq
        have hB := pw_below_drewN hB nq
        clear q0 q1 q2 HQ
        generalize w1.drewN nq = w1' at *
        have q0 := HR.cell 0 _ rfl
        have q1 := HR.cell 1 _ rfl
        go_wp2_with fail
        go_quiet (fail)
        have HP := HP.below (pw_below_drewN (Below.refl _ _) nq)
        have hd := hd.drewN nq
        have hs := hs.drewN nq
        have ht := ht.drewN nq
        have hB := pw_below_drewN hB nq
        clear q0 q1 HR
        generalize w1'.drewN nq = w2' at *
        obtain ⟨c0, c1, c2, c3, c4, c5⟩ := cells6 HP
        go_wp2_with fail
        refine (light_c p _).mono ?_
        rintro e w2 ⟨rfl, h2⟩
        rw [hL.out]
        have HP := HP.below h2
        have hd := hd.below h2
        have hs := hs.below h2
        have ht := ht.below h2
        have hB := bt_ hB h2
        obtain ⟨c0, c1, c2, c3, c4, c5⟩ := cells6 HP
        clear h2
        go_wp2_with fail
        refine (alive14 _).mono ?_
        rintro e w9 ⟨rfl, h⟩
        have hB := bt_ hB h
        clear h
        go_wp2
        go_ret
        exact ⟨rfl, hB⟩
      · have t2 : decide ((30 : Int) < (s.length : Int)) = true := decide_eq_true (by omega)
        clear h
        have HP := (Blk.new w (planC p) 33).alloc (.cells #[dv, sv, tv] 116)
        have HP := HP.alloc (.cells #[.int .i64 tg, .int .i64 at'] 77)
        have HQ := (Blk.new' (w.alloc (.cells (planC p) 33)) #[dv, sv, tv] 116 (World.size_alloc w _)).alloc (.cells #[.int .i64 tg, .int .i64 at'] 77)
        have HR := Blk.new' ((w.alloc (.cells (planC p) 33)).alloc (.cells #[dv, sv, tv] 116)) #[.int .i64 tg, .int .i64 at'] 77 (by rw [World.size_alloc, World.size_alloc])
        have hB := below_alloc (below_alloc (below_alloc (Below.refl w.heap.size w) (.cells (planC p) 33)) (.cells #[dv, sv, tv] 116)) (.cells #[.int .i64 tg, .int .i64 at'] 77)
        have hd := hd.below hB
        have hs := hs.below hB
        have ht := ht.below hB
        obtain ⟨Ad, cd, rfl⟩ := rk_form hd
        obtain ⟨As, cs, rfl⟩ := rk_form hs
        obtain ⟨At, ct, rfl⟩ := rk_form ht
        have hld := kb_len (rk_C hd)
        have hls := kb_len (rk_C hs)
        have hlt := kb_len (rk_C ht)
        have hL := hL2
        go_enter Try.func31, Try.ntmps31
        go_wp2_with fail
        generalize ((w.alloc (.cells (planC p) 33)).alloc (.cells #[.slice Ad d.length cd, .slice As s.length cs, .slice At t.length ct] 116)).alloc (.cells #[.int .i64 tg, .int .i64 at'] 77) = w1 at *
        have q0 := HQ.cell 0 _ rfl
        have q1 := HQ.cell 1 _ rfl
        have q2 := HQ.cell 2 _ rfl
        go_quiet (fail)
        have HP := HP.below (pw_below_drewN (Below.refl _ _) nq)
        have HR := HR.below (pw_below_drewN (Below.refl _ _) nq)
        have hd := hd.drewN nq
        have hs := hs.drewN nq
        have ht := ht.drewN nq
        have hB := pw_below_drewN hB nq
        clear q0 q1 q2 HQ
        generalize w1.drewN nq = w1' at *
        have q0 := HR.cell 0 _ rfl
        have q1 := HR.cell 1 _ rfl
        go_wp2_with fail
        go_quiet (fail)
        have HP := HP.below (pw_below_drewN (Below.refl _ _) nq)
        have hd := hd.drewN nq
        have hs := hs.drewN nq
        have ht := ht.drewN nq
        have hB := pw_below_drewN hB nq
        clear q0 q1 HR
        generalize w1'.drewN nq = w2' at *
        obtain ⟨c0, c1, c2, c3, c4, c5⟩ := cells6 HP
        go_wp2_with fail
        refine (light_c p _).mono ?_
        rintro e w2 ⟨rfl, h2⟩
        rw [hL.out]
        have HP := HP.below h2
        have hd := hd.below h2
        have hs := hs.below h2
        have ht := ht.below h2
        have hB := bt_ hB h2
        obtain ⟨c0, c1, c2, c3, c4, c5⟩ := cells6 HP
        clear h2
        go_wp2_with fail
        refine (alive14 _).mono ?_
        rintro e w9 ⟨rfl, h⟩
        have hB := bt_ hB h
        clear h
        go_wp2
        go_ret
        exact ⟨rfl, hB⟩
    · have t1 : decide ((20 : Int) < (d.length : Int)) = true := decide_eq_true (by omega)
      clear h
      have HP := (Blk.new w (planC p) 33).alloc (.cells #[dv, sv, tv] 116)
      have HP := HP.alloc (.cells #[.int .i64 tg, .int .i64 at'] 77)
      have HQ := (Blk.new' (w.alloc (.cells (planC p) 33)) #[dv, sv, tv] 116 (World.size_alloc w _)).alloc (.cells #[.int .i64 tg, .int .i64 at'] 77)
      have HR := Blk.new' ((w.alloc (.cells (planC p) 33)).alloc (.cells #[dv, sv, tv] 116)) #[.int .i64 tg, .int .i64 at'] 77 (by rw [World.size_alloc, World.size_alloc])
      have hB := below_alloc (below_alloc (below_alloc (Below.refl w.heap.size w) (.cells (planC p) 33)) (.cells #[dv, sv, tv] 116)) (.cells #[.int .i64 tg, .int .i64 at'] 77)
      have hd := hd.below hB
      have hs := hs.below hB
      have ht := ht.below hB
      obtain ⟨Ad, cd, rfl⟩ := rk_form hd
      obtain ⟨As, cs, rfl⟩ := rk_form hs
      obtain ⟨At, ct, rfl⟩ := rk_form ht
      have hld := kb_len (rk_C hd)
      have hls := kb_len (rk_C hs)
      have hlt := kb_len (rk_C ht)
      have hL := hL2
      go_enter Try.func31, Try.ntmps31
      go_wp2_with fail
      generalize ((w.alloc (.cells (planC p) 33)).alloc (.cells #[.slice Ad d.length cd, .slice As s.length cs, .slice At t.length ct] 116)).alloc (.cells #[.int .i64 tg, .int .i64 at'] 77) = w1 at *
      have q0 := HQ.cell 0 _ rfl
      have q1 := HQ.cell 1 _ rfl
      have q2 := HQ.cell 2 _ rfl
      go_quiet (fail)
      have HP := HP.below (pw_below_drewN (Below.refl _ _) nq)
      have HR := HR.below (pw_below_drewN (Below.refl _ _) nq)
      have hd := hd.drewN nq
      have hs := hs.drewN nq
      have ht := ht.drewN nq
      have hB := pw_below_drewN hB nq
      clear q0 q1 q2 HQ
      generalize w1.drewN nq = w1' at *
      have q0 := HR.cell 0 _ rfl
      have q1 := HR.cell 1 _ rfl
      go_wp2_with fail
      go_quiet (fail)
      have HP := HP.below (pw_below_drewN (Below.refl _ _) nq)
      have hd := hd.drewN nq
      have hs := hs.drewN nq
      have ht := ht.drewN nq
      have hB := pw_below_drewN hB nq
      clear q0 q1 HR
      generalize w1'.drewN nq = w2' at *
      obtain ⟨c0, c1, c2, c3, c4, c5⟩ := cells6 HP
      go_wp2_with fail
      refine (light_c p _).mono ?_
      rintro e w2 ⟨rfl, h2⟩
      rw [hL.out]
      have HP := HP.below h2
      have hd := hd.below h2
      have hs := hs.below h2
      have ht := ht.below h2
      have hB := bt_ hB h2
      obtain ⟨c0, c1, c2, c3, c4, c5⟩ := cells6 HP
      clear h2
      go_wp2_with fail
      refine (alive14 _).mono ?_
      rintro e w9 ⟨rfl, h⟩
      have hB := bt_ hB h
      clear h
      go_wp2
      go_ret
      exact ⟨rfl, hB⟩
  · have hL := Lib.hid (decide_eq_false hL)
    clear h
    have HP := (Blk.new w (planC p) 33).alloc (.cells #[dv, sv, tv] 116)
    have HP := HP.alloc (.cells #[.int .i64 tg, .int .i64 at'] 77)
    have HQ := (Blk.new' (w.alloc (.cells (planC p) 33)) #[dv, sv, tv] 116 (World.size_alloc w _)).alloc (.cells #[.int .i64 tg, .int .i64 at'] 77)
    have HR := Blk.new' ((w.alloc (.cells (planC p) 33)).alloc (.cells #[dv, sv, tv] 116)) #[.int .i64 tg, .int .i64 at'] 77 (by rw [World.size_alloc, World.size_alloc])
    have hB := below_alloc (below_alloc (below_alloc (Below.refl w.heap.size w) (.cells (planC p) 33)) (.cells #[dv, sv, tv] 116)) (.cells #[.int .i64 tg, .int .i64 at'] 77)
    have hd := hd.below hB
    have hs := hs.below hB
    have ht := ht.below hB
    obtain ⟨Ad, cd, rfl⟩ := rk_form hd
    obtain ⟨As, cs, rfl⟩ := rk_form hs
    obtain ⟨At, ct, rfl⟩ := rk_form ht
    have hld := kb_len (rk_C hd)
    have hls := kb_len (rk_C hs)
    have hlt := kb_len (rk_C ht)
    go_enter Try.func31, Try.ntmps31
    go_wp2_with fail
    generalize ((w.alloc (.cells (planC p) 33)).alloc (.cells #[.slice Ad d.length cd, .slice As s.length cs, .slice At t.length ct] 116)).alloc (.cells #[.int .i64 tg, .int .i64 at'] 77) = w1 at *
    have q0 := HQ.cell 0 _ rfl
    have q1 := HQ.cell 1 _ rfl
    have q2 := HQ.cell 2 _ rfl
    go_quiet (fail)
    have HP := HP.below (pw_below_drewN (Below.refl _ _) nq)
    have HR := HR.below (pw_below_drewN (Below.refl _ _) nq)
    have hd := hd.drewN nq
    have hs := hs.drewN nq
    have ht := ht.drewN nq
    have hB := pw_below_drewN hB nq
    clear q0 q1 q2 HQ
    generalize w1.drewN nq = w1' at *
    have q0 := HR.cell 0 _ rfl
    have q1 := HR.cell 1 _ rfl
    go_wp2_with fail
    go_quiet (fail)
    have HP := HP.below (pw_below_drewN (Below.refl _ _) nq)
    have hd := hd.drewN nq
    have hs := hs.drewN nq
    have ht := ht.drewN nq
    have hB := pw_below_drewN hB nq
    clear q0 q1 HR
    generalize w1'.drewN nq = w2' at *
    obtain ⟨c0, c1, c2, c3, c4, c5⟩ := cells6 HP
    go_wp2_with fail
    refine (light_c p _).mono ?_
    rintro e w2 ⟨rfl, h2⟩
    rw [hL.out]
    have HP := HP.below h2
    have hd := hd.below h2
    have hs := hs.below h2
    have ht := ht.below h2
    have hB := bt_ hB h2
    obtain ⟨c0, c1, c2, c3, c4, c5⟩ := cells6 HP
    clear h2
    go_wp2_with fail
    refine (alive14 _).mono ?_
    rintro e w9 ⟨rfl, h⟩
    have hB := bt_ hB h
    clear h
    go_wp2
    go_ret
    exact ⟨rfl, hB⟩
set_option maxRecDepth 100000 in
set_option maxHeartbeats 6400000 in
theorem maskMasks_mid (p : Pl) (hi : p.In) (dv sv tv : Value) (d s t : List F) (tg at' : Int) (ha : I64 at') (w : World) (hd : Rb w dv d) (hs : Rb w sv s) (ht : Rb w tv t) (hL : Lite p) (b1 : d.length ≤ 20) (b2 : s.length ≤ 30) (b3 : t.length ≤ 60) (A B C : List F)
   (cA : ∀ (b : Nat) (v u : Value) (w : World), IsField w b → Rb w v d → Rb w u s → Calls Try.prog 140 #[fp b, planV p, v, u] w fun e w' => ∃ z, e = .returned z ∧ Rb w' z A ∧ Below w.heap.size w w')
   (cB : ∀ (b : Nat) (v : Value) (w : World), IsField w b → Rb w v s → Calls Try.prog 141 #[fp b, planV p, v] w fun e w' => ∃ z, e = .returned z ∧ Rb w' z B ∧ Below w.heap.size w w')
   (cC : ∀ (b : Nat) (v : Value) (w : World), IsField w b → Rb w v s → Calls Try.prog 142 #[fp b, planV p, v, .int .i64 tg] w fun e w' => ∃ z, e = .returned z ∧ Rb w' z C ∧ Below w.heap.size w w')
   (lA : A.length ≤ 1000 ∧ B.length ≤ 1000 ∧ C.length ≤ 1000)
   (hA : ¬ p.Ok → A.length = 0 ∧ B.length = 0 ∧ C.length = 0) (hA2 : p.Ok → A = dealM p d s ∧ B = zeroM p s ∧ ((1 ≤ tg ∧ tg ≤ p.N → C = blindM p s tg ∧ 0 < C.length) ∧ (¬ (1 ≤ tg ∧ tg ≤ p.N) → C.length = 0))) :
   Calls Try.prog 31 #[planV p, .agg #[dv, sv, tv], .agg #[.int .i64 tg, .int .i64 at']] w fun e w' => e = .returned (.bool true) ∧ Below w.heap.size w w' := by
  have hL0 := Lib.hid hL
  replace hL := Lib.hid (decide_eq_true hL)
  have t1 : decide ((20 : Int) < (d.length : Int)) = false := decide_eq_false (by omega)
  have t2 : decide ((30 : Int) < (s.length : Int)) = false := decide_eq_false (by omega)
  have t3 : decide ((60 : Int) < (t.length : Int)) = false := decide_eq_false (by omega)
  have hwa := Lib.hid (wnt_all t at' s)
  replace lA := Lib.hid lA
  replace cA := Lib.hid cA
  replace cB := Lib.hid cB
  replace cC := Lib.hid cC
  replace hA := Lib.hid hA
  replace hA2 := Lib.hid hA2
  have HP := (Blk.new w (planC p) 33).alloc (.cells #[dv, sv, tv] 116)
  have HP := HP.alloc (.cells #[.int .i64 tg, .int .i64 at'] 77)
  have HQ := (Blk.new' (w.alloc (.cells (planC p) 33)) #[dv, sv, tv] 116 (World.size_alloc w _)).alloc (.cells #[.int .i64 tg, .int .i64 at'] 77)
  have HR := Blk.new' ((w.alloc (.cells (planC p) 33)).alloc (.cells #[dv, sv, tv] 116)) #[.int .i64 tg, .int .i64 at'] 77 (by rw [World.size_alloc, World.size_alloc])
  have hB := below_alloc (below_alloc (below_alloc (Below.refl w.heap.size w) (.cells (planC p) 33)) (.cells #[dv, sv, tv] 116)) (.cells #[.int .i64 tg, .int .i64 at'] 77)
  have hd := hd.below hB
  have hs := hs.below hB
  have ht := ht.below hB
  obtain ⟨Ad, cd, rfl⟩ := rk_form hd
  obtain ⟨As, cs, rfl⟩ := rk_form hs
  obtain ⟨At, ct, rfl⟩ := rk_form ht
  have hld := kb_len (rk_C hd)
  have hls := kb_len (rk_C hs)
  have hlt := kb_len (rk_C ht)
  go_enter Try.func31, Try.ntmps31
  go_wp2_with fail
  generalize ((w.alloc (.cells (planC p) 33)).alloc (.cells #[.slice Ad d.length cd, .slice As s.length cs, .slice At t.length ct] 116)).alloc (.cells #[.int .i64 tg, .int .i64 at'] 77) = w1 at *
  have q0 := HQ.cell 0 _ rfl
  have q1 := HQ.cell 1 _ rfl
  have q2 := HQ.cell 2 _ rfl
  go_quiet (fail)
  have HP := HP.below (pw_below_drewN (Below.refl _ _) nq)
  have HR := HR.below (pw_below_drewN (Below.refl _ _) nq)
  have hd := hd.drewN nq
  have hs := hs.drewN nq
  have ht := ht.drewN nq
  have hB := pw_below_drewN hB nq
  clear q0 q1 q2 HQ
  generalize w1.drewN nq = w1' at *
  have q0 := HR.cell 0 _ rfl
  have q1 := HR.cell 1 _ rfl
  go_wp2_with fail
  go_quiet (fail)
  have HP := HP.below (pw_below_drewN (Below.refl _ _) nq)
  have hd := hd.drewN nq
  have hs := hs.drewN nq
  have ht := ht.drewN nq
  have hB := pw_below_drewN hB nq
  clear q0 q1 HR
  generalize w1'.drewN nq = w2' at *
  obtain ⟨c0, c1, c2, c3, c4, c5⟩ := cells6 HP
  go_wp2_with fail
  refine (light_c p _).mono ?_
  rintro e w2 ⟨rfl, h2⟩
  rw [hL.out]
  have HP := HP.below h2
  have hd := hd.below h2
  have hs := hs.below h2
  have ht := ht.below h2
  have hB := bt_ hB h2
  obtain ⟨c0, c1, c2, c3, c4, c5⟩ := cells6 HP
  clear h2
  go_wp2_with fail
  refine (new_x _).mono ?_
  rintro e w3 ⟨bF, rfl, hF, h3⟩
  have hd := hd.below h3
  have hs := hs.below h3
  have ht := ht.below h3
  have HP := HP.below h3
  have hB := bt_ hB h3
  obtain ⟨c0, c1, c2, c3, c4, c5⟩ := cells6 HP
  clear h3 c0 c1 c2 c3 c4 c5
  have hB0 := hB
  clear hB
  go_wp2_with fail
  refine wp_region_say [(isF), (isV (planV p)), (isB d), (isB s), (isB A), (isF), (isV (planV p)), (isB s), (isB B), (isF), (isV (planV p)), (isB s), (isV (.int .i64 tg)), (isB C), (isB A), (isB B), (isB C)] [(0, some 48), (1, some 49), (2, some 50), (3, some 51), (4, some 52), (5, some 53), (6, some 54), (7, some 55), (8, some 56), (9, some 57), (10, some 58), (11, some 59), (12, some 60), (13, some 61), (14, some 13), (15, some 14), (16, some 15)] (by kernel_rfl) (by kernel_rfl) (by kernel_rfl) ⟨last_F, last_V _, last_B _, last_B _, last_B _, last_F, last_V _, last_B _, last_B _, last_F, last_V _, last_B _, last_V _, last_B _, last_B _, last_B _, last_B _, trivial⟩ ⟨?s0, ?s1, ?s2, ?s3, ?s4, ?s5, ?s6, ?s7, ?s8, ?s9, ?s10, ?s11, ?s12, ?s13, ?s14, ?s15, ?s16, trivial⟩ ?hQ
  case s0 =>
    refine famStep_of [] (by kernel_rfl) ?_
    intro W hB K hK
    simp only [Act.put, List.setIfInBounds_toArray, List.set_cons_zero, List.set_cons_succ] at hK ⊢
    obtain ⟨c0, c1, c2, c3, c4, c5⟩ := cells6 (HP.below hB)
    go_simp
    exact hK _ _ ⟨_, rfl, hF.below hB⟩ (Below.refl _ _)
  case s1 =>
    refine famStep_of [] (by kernel_rfl) ?_
    intro W hB K hK
    simp only [Act.put, List.setIfInBounds_toArray, List.set_cons_zero, List.set_cons_succ] at hK ⊢
    obtain ⟨c0, c1, c2, c3, c4, c5⟩ := cells6 (HP.below hB)
    go_simp
    exact hK _ _ rfl (Below.refl _ _)
  case s2 =>
    refine famStep_of [] (by kernel_rfl) ?_
    intro W hB K hK
    simp only [Act.put, List.setIfInBounds_toArray, List.set_cons_zero, List.set_cons_succ] at hK ⊢
    obtain ⟨c0, c1, c2, c3, c4, c5⟩ := cells6 (HP.below hB)
    go_simp
    exact hK _ _ (hd.below hB) (Below.refl _ _)
  case s3 =>
    refine famStep_of [] (by kernel_rfl) ?_
    intro W hB K hK
    simp only [Act.put, List.setIfInBounds_toArray, List.set_cons_zero, List.set_cons_succ] at hK ⊢
    obtain ⟨c0, c1, c2, c3, c4, c5⟩ := cells6 (HP.below hB)
    go_simp
    exact hK _ _ (hs.below hB) (Below.refl _ _)
  case s4 =>
    refine famStep_of [(0, some 48), (1, some 49), (2, some 50), (3, some 51)] (by kernel_rfl) ?_
    intro W hB v0 h0 v1 h1 v2 h2 v3 h3 K hK
    obtain ⟨b0, rfl, h0⟩ := h0
    obtain rfl : v1 = (planV p) := h1
    replace h2 : Rb W v2 d := h2
    replace h3 : Rb W v3 s := h3
    simp only [Act.put, List.setIfInBounds_toArray, List.set_cons_zero, List.set_cons_succ] at hK ⊢
    obtain ⟨c0, c1, c2, c3, c4, c5⟩ := cells6 (HP.below hB)
    go_simp
    go_at_call 140; refine (cA.out _ _ _ _ h0 h2 h3).mono ?_; rintro e w6 ⟨v9, rfl, sA, h6⟩; exact hK _ _ sA h6
  case s5 =>
    refine famStep_of [] (by kernel_rfl) ?_
    intro W hB K hK
    simp only [Act.put, List.setIfInBounds_toArray, List.set_cons_zero, List.set_cons_succ] at hK ⊢
    obtain ⟨c0, c1, c2, c3, c4, c5⟩ := cells6 (HP.below hB)
    go_simp
    exact hK _ _ ⟨_, rfl, hF.below hB⟩ (Below.refl _ _)
  case s6 =>
    refine famStep_of [] (by kernel_rfl) ?_
    intro W hB K hK
    simp only [Act.put, List.setIfInBounds_toArray, List.set_cons_zero, List.set_cons_succ] at hK ⊢
    obtain ⟨c0, c1, c2, c3, c4, c5⟩ := cells6 (HP.below hB)
    go_simp
    exact hK _ _ rfl (Below.refl _ _)
  case s7 =>
    refine famStep_of [] (by kernel_rfl) ?_
    intro W hB K hK
    simp only [Act.put, List.setIfInBounds_toArray, List.set_cons_zero, List.set_cons_succ] at hK ⊢
    obtain ⟨c0, c1, c2, c3, c4, c5⟩ := cells6 (HP.below hB)
    go_simp
    exact hK _ _ (hs.below hB) (Below.refl _ _)
  case s8 =>
    refine famStep_of [(5, some 53), (6, some 54), (7, some 55)] (by kernel_rfl) ?_
    intro W hB v5 h5 v6 h6 v7 h7 K hK
    obtain ⟨b5, rfl, h5⟩ := h5
    obtain rfl : v6 = (planV p) := h6
    replace h7 : Rb W v7 s := h7
    simp only [Act.put, List.setIfInBounds_toArray, List.set_cons_zero, List.set_cons_succ] at hK ⊢
    obtain ⟨c0, c1, c2, c3, c4, c5⟩ := cells6 (HP.below hB)
    go_simp
    go_at_call 141; refine (cB.out _ _ _ h5 h7).mono ?_; rintro e w6 ⟨v9, rfl, sA, h6⟩; exact hK _ _ sA h6
  case s9 =>
    refine famStep_of [] (by kernel_rfl) ?_
    intro W hB K hK
    simp only [Act.put, List.setIfInBounds_toArray, List.set_cons_zero, List.set_cons_succ] at hK ⊢
    obtain ⟨c0, c1, c2, c3, c4, c5⟩ := cells6 (HP.below hB)
    go_simp
    exact hK _ _ ⟨_, rfl, hF.below hB⟩ (Below.refl _ _)
  case s10 =>
    refine famStep_of [] (by kernel_rfl) ?_
    intro W hB K hK
    simp only [Act.put, List.setIfInBounds_toArray, List.set_cons_zero, List.set_cons_succ] at hK ⊢
    obtain ⟨c0, c1, c2, c3, c4, c5⟩ := cells6 (HP.below hB)
    go_simp
    exact hK _ _ rfl (Below.refl _ _)
  case s11 =>
    refine famStep_of [] (by kernel_rfl) ?_
    intro W hB K hK
    simp only [Act.put, List.setIfInBounds_toArray, List.set_cons_zero, List.set_cons_succ] at hK ⊢
    obtain ⟨c0, c1, c2, c3, c4, c5⟩ := cells6 (HP.below hB)
    go_simp
    exact hK _ _ (hs.below hB) (Below.refl _ _)
  case s12 =>
    refine famStep_of [] (by kernel_rfl) ?_
    intro W hB K hK
    simp only [Act.put, List.setIfInBounds_toArray, List.set_cons_zero, List.set_cons_succ] at hK ⊢
    obtain ⟨c0, c1, c2, c3, c4, c5⟩ := cells6 (HP.below hB)
    go_simp
    exact hK _ _ rfl (Below.refl _ _)
  case s13 =>
    refine famStep_of [(9, some 57), (10, some 58), (11, some 59), (12, some 60)] (by kernel_rfl) ?_
    intro W hB v9 h9 v10 h10 v11 h11 v12 h12 K hK
    obtain ⟨b9, rfl, h9⟩ := h9
    obtain rfl : v10 = (planV p) := h10
    replace h11 : Rb W v11 s := h11
    obtain rfl : v12 = (.int .i64 tg) := h12
    simp only [Act.put, List.setIfInBounds_toArray, List.set_cons_zero, List.set_cons_succ] at hK ⊢
    obtain ⟨c0, c1, c2, c3, c4, c5⟩ := cells6 (HP.below hB)
    go_simp
    go_at_call 142; refine (cC.out _ _ _ h9 h11).mono ?_; rintro e w6 ⟨v9, rfl, sA, h6⟩; exact hK _ _ sA h6
  case s14 =>
    refine famStep_of [(4, some 52)] (by kernel_rfl) ?_
    intro W hB v4 h4 K hK
    replace h4 : Rb W v4 A := h4
    simp only [Act.put, List.setIfInBounds_toArray, List.set_cons_zero, List.set_cons_succ] at hK ⊢
    obtain ⟨c0, c1, c2, c3, c4, c5⟩ := cells6 (HP.below hB)
    go_simp
    exact hK _ _ h4 (Below.refl _ _)
  case s15 =>
    refine famStep_of [(8, some 56)] (by kernel_rfl) ?_
    intro W hB v8 h8 K hK
    replace h8 : Rb W v8 B := h8
    simp only [Act.put, List.setIfInBounds_toArray, List.set_cons_zero, List.set_cons_succ] at hK ⊢
    obtain ⟨c0, c1, c2, c3, c4, c5⟩ := cells6 (HP.below hB)
    go_simp
    exact hK _ _ h8 (Below.refl _ _)
  case s16 =>
    refine famStep_of [(13, some 61)] (by kernel_rfl) ?_
    intro W hB v13 h13 K hK
    replace h13 : Rb W v13 C := h13
    simp only [Act.put, List.setIfInBounds_toArray, List.set_cons_zero, List.set_cons_succ] at hK ⊢
    obtain ⟨c0, c1, c2, c3, c4, c5⟩ := cells6 (HP.below hB)
    go_simp
    exact hK _ _ h13 (Below.refl _ _)
  case hQ =>
    intro W hB v0 h0 v1 h1 v2 h2 v3 h3 v4 h4 v5 h5 v6 h6 v7 h7 v8 h8 v9 h9 v10 h10 v11 h11 v12 h12 v13 h13 v14 h14 v15 h15 v16 h16
    obtain ⟨b0, rfl, h0⟩ := h0
    obtain rfl : v1 = (planV p) := h1
    replace h2 : Rb W v2 d := h2
    replace h3 : Rb W v3 s := h3
    replace h4 : Rb W v4 A := h4
    obtain ⟨b5, rfl, h5⟩ := h5
    obtain rfl : v6 = (planV p) := h6
    replace h7 : Rb W v7 s := h7
    replace h8 : Rb W v8 B := h8
    obtain ⟨b9, rfl, h9⟩ := h9
    obtain rfl : v10 = (planV p) := h10
    replace h11 : Rb W v11 s := h11
    obtain rfl : v12 = (.int .i64 tg) := h12
    replace h13 : Rb W v13 C := h13
    replace h14 : Rb W v14 A := h14
    replace h15 : Rb W v15 B := h15
    replace h16 : Rb W v16 C := h16
    simp only [famGo, Act.put, List.setIfInBounds_toArray, List.set_cons_zero, List.set_cons_succ]
    replace HP := HP.below hB
    have hd := hd.below hB
    have hs := hs.below hB
    have ht := ht.below hB
    have hB0 := bt_ hB0 hB
    obtain ⟨zA, yA, rfl⟩ := rk_form h14
    obtain ⟨zB, yB, rfl⟩ := rk_form h15
    obtain ⟨zC, yC, rfl⟩ := rk_form h16
    clear h0 h2 h3 h4 h5 h7 h8 h9 h11 h13 hB hF
    have hO := lit_own (w0 := W) (W := W) [] #[] rfl 0 rfl (by decide) (Nat.le_refl _)
    have hb := below_alloc (Below.refl W.heap.size W) (.cells #[] 5)
    have ht2 := ht.below hb
    have hap : ([] : List F).length + t.length ≤ 140737488355328 := by simp; omega
    have hnil : ([] : List F) ++ t = t := List.nil_append t
    go_wp2_with (at_builtin; refine app_many (enc := bV) rfl (.tmp 62) (.tmp 63) 40 5 (.int .u8 0) 1 rfl Try.underlying40 infoB rfl (by decide) _ [] t _ rfl rfl hO ht2 hb ?hl ?_; (case hl => omega); intro v1 wa ho hbb hg)
    rw [hnil] at ho
    replace ho : Ob W wa v1 t := ho
    have hbb := hbb
    clear hO hb ht2 hap hnil hg
    go_loopw [17, 67] (fun _ i wr => ∃ k : Nat, k ≤ s.length ∧ i = .int .i64 k ∧ Ob W wr v1 (wnt t at' s k) ∧ Below W.heap.size W wr) (fun _ i _ => s.length - (intOf i).toNat)
    case atStart => exact ⟨0, by omega, rfl, by rw [wnt_0]; exact ho, hbb⟩
    case round =>
      clear ho hbb
      obtain ⟨k, hk, rfl, hO, hb⟩ := hrel
      by_cases hlt : k < s.length
      · by_cases g1 : 0 ≤ at'
        · have s1 : decide (0 ≤ at') = true := decide_eq_true g1
          by_cases g2 : at' < (t.length : Int) - k
          · have s2 : decide (at' < (t.length : Int) - (k : Int)) = true := decide_eq_true g2
            obtain ⟨a, rfl⟩ : ∃ a : Nat, at' = (a : Int) := ⟨at'.toNat, by omega⟩
            obtain ⟨g, cap, rfl, hg1, hg2⟩ := Ob.form hO (by rw [wnt_len]; omega)
            obtain ⟨j2, hj2⟩ : ∃ j2, j2 = a + k := ⟨_, rfl⟩
            have hset := wnt_set t a s k (by omega)
            rw [← hj2] at hset
            obtain ⟨c2, f2⟩ := hO.at j2 (by rw [wnt_len]; omega)
            have u2 : IntKind.i64.wrap ((a : Int) + (k : Int)) = (j2 : Int) := by rw [wrapI _ (by omega) (by omega)]; omega
            have hjn : (j2 : Int) < (t.length : Int) := by omega
            have hbase : Hid (W.heap.size ≤ g) := Lib.hid hg1
            rw [wnt_len] at hO ⊢
            obtain ⟨ad, rfl, d0⟩ := kb_at (rk_C (hs.below hb)) k hlt
            have hsetw := fun W2 (h : Ob W W2 (.slice (some ⟨g, 0, none⟩) t.length cap) (wnt t (a : Int) s k)) z => h.set j2 z
            generalize hy : (wnt t (a : Int) s k).getD j2 0 = y at *
            generalize s.getD k 0 = b' at *
            have X1 := xor8 y b'
            replace hset := Lib.hid hset
            replace hsetw := Lib.hid hsetw
            clear hj2 hy g1 g2 hg1 hg2
            go_wp2_with fail
            have hD : Drawn0 wr wr := Drawn0.refl _
            go_region_law (fail)
            all_goals go_wp2
            all_goals
              have hO1 := hO.below (below_drew (Below.refl _ _))
              have hB1 := below_drew hb
              obtain ⟨hO2, hgr⟩ := hsetw.out _ hO1 (y + b')
              rw [hset.out] at hO2
              exact ⟨⟨k + 1, by omega, by go_num, hO2, hB1.grown hgr hB1.size (fun k hk => by injection hk with hk; have := hbase.out; omega)⟩, by simp [intOf]; try omega⟩
          · have s2 : decide (at' < (t.length : Int) - (k : Int)) = false := decide_eq_false g2
            have hsk := Lib.hid (wnt_skip t at' s k (fun e => g2 e.2))
            clear g1 g2
            go_wp2
            exact ⟨⟨k + 1, by omega, by go_num, by rw [hsk.out]; exact hO, hb⟩, by simp [intOf]; try omega⟩
        · have s1 : decide (0 ≤ at') = false := decide_eq_false g1
          have hsk := Lib.hid (wnt_skip t at' s k (fun e => g1 e.1))
          clear g1
          go_wp2
          exact ⟨⟨k + 1, by omega, by go_num, by rw [hsk.out]; exact hO, hb⟩, by simp [intOf]; try omega⟩
      · obtain rfl : k = s.length := by omega
        rw [hwa.out] at hO
        replace hO := hO.rk
        have HP := HP.below hb
        have hd := hd.below hb
        have hs := hs.below hb
        have ht := ht.below hb
        have sA := Rk.below h14 hb
        have sB := Rk.below h15 hb
        have sC := Rk.below h16 hb
        have hB := bt_ hB0 hb
        clear h14 h15 h16 hb hB0
        obtain ⟨AV, cV, rfl⟩ := rk_form hO
        go_wp2_with fail
        refine (mApply_c _ _ t s at' _ ht hs (by omega)).mono ?_
        rintro e w5 ⟨vP, rfl, oP, h5⟩
        have HP := HP.below h5
        have hd := hd.below h5
        have hs := hs.below h5
        have ht := ht.below h5
        have sA := Rk.below sA h5
        have sB := Rk.below sB h5
        have sC := Rk.below sC h5
        have hB := bt_ hB h5
        replace oP := oP.rk
        go_wp2_with fail
        refine (rSameB_c _ _ (apM t at' s) (apM t at' s) _ oP (hO.below h5)).mono ?_
        rintro e w5 ⟨rfl, h5⟩
        have HP := HP.below h5
        have hd := hd.below h5
        have hs := hs.below h5
        have ht := ht.below h5
        have sA := Rk.below sA h5
        have sB := Rk.below sB h5
        have sC := Rk.below sC h5
        have hB := bt_ hB h5
        rw [decide_eq_true (rfl : apM t at' s = apM t at' s)]
        clear oP hO h5
        obtain ⟨c0, c1, c2, c3, c4, c5⟩ := cells6 HP
        by_cases h : p.Ok
        · obtain ⟨e1, e2, e3, e4⟩ := hA2.out h
          subst e1
          subst e2
          go_wp2_with fail
          refine (rRight_yes p h _).mono ?_
          rintro e w5 ⟨rfl, h5⟩
          have HP := HP.below h5
          have hd := hd.below h5
          have hs := hs.below h5
          have ht := ht.below h5
          have sA := Rk.below sA h5
          have sB := Rk.below sB h5
          have sC := Rk.below sC h5
          have hB := bt_ hB h5
          obtain ⟨c0, c1, c2, c3, c4, c5⟩ := cells6 HP
          by_cases g : 1 ≤ tg ∧ tg ≤ p.N
          · obtain ⟨e5, e6⟩ := e3 g
            subst e5
            have tC : decide ((0 : Int) < ((blindM p s tg).length : Int)) = true := decide_eq_true (by omega)
            have tC2 : decide (0 < (blindM p s tg).length) = true := decide_eq_true e6
            have gd := Lib.hid (decide_eq_true g)
            replace h := Lib.hid h
            clear e3 e4 e6 g
            go_wp2_with fail
            refine (rIs_c p tg _).mono ?_
            rintro e w5 ⟨rfl, h5⟩
            have HP := HP.below h5
            have hd := hd.below h5
            have hs := hs.below h5
            have ht := ht.below h5
            have sA := Rk.below sA h5
            have sB := Rk.below sB h5
            have sC := Rk.below sC h5
            have hB := bt_ hB h5
            rw [gd.out]
            obtain ⟨c0, c1, c2, c3, c4, c5⟩ := cells6 HP
            go_wp2_with fail
            refine (rBlind14_c p h.out _ s tg _ hs (by omega)).mono ?_
            rintro e w5 ⟨vP, rfl, oP, h5⟩
            have HP := HP.below h5
            have hd := hd.below h5
            have hs := hs.below h5
            have ht := ht.below h5
            have sA := Rk.below sA h5
            have sB := Rk.below sB h5
            have sC := Rk.below sC h5
            have hB := bt_ hB h5
            replace oP := oP.rk
            obtain ⟨c0, c1, c2, c3, c4, c5⟩ := cells6 HP
            go_wp2_with fail
            refine (rSameB_c _ _ (blindM p s tg) (blindM p s tg) _ sC oP).mono ?_
            rintro e w5 ⟨rfl, h5⟩
            have HP := HP.below h5
            have hd := hd.below h5
            have hs := hs.below h5
            have ht := ht.below h5
            have sA := Rk.below sA h5
            have sB := Rk.below sB h5
            have sC := Rk.below sC h5
            have hB := bt_ hB h5
            rw [decide_eq_true (rfl : blindM p s tg = blindM p s tg)]
            clear sC
            have sC := sB
            obtain ⟨c0, c1, c2, c3, c4, c5⟩ := cells6 HP
            go_wp2_with fail
            refine (rDeal14_c p h.out (by have := hL0.out.2.1; omega) _ _ d s _ hd hs (by omega)).mono ?_
            rintro e w5 ⟨vP, rfl, oP, h5⟩
            have HP := HP.below h5
            have hd := hd.below h5
            have hs := hs.below h5
            have ht := ht.below h5
            have sA := Rk.below sA h5
            have sB := Rk.below sB h5
            have sC := Rk.below sC h5
            have hB := bt_ hB h5
            replace oP := oP.rk
            obtain ⟨c0, c1, c2, c3, c4, c5⟩ := cells6 HP
            go_wp2_with fail
            refine (rSameB_c _ _ (dealM p d s) (dealM p d s) _ sA oP).mono ?_
            rintro e w5 ⟨rfl, h5⟩
            have HP := HP.below h5
            have hd := hd.below h5
            have hs := hs.below h5
            have ht := ht.below h5
            have sA := Rk.below sA h5
            have sB := Rk.below sB h5
            have sC := Rk.below sC h5
            have hB := bt_ hB h5
            rw [decide_eq_true (rfl : dealM p d s = dealM p d s)]
            obtain ⟨c0, c1, c2, c3, c4, c5⟩ := cells6 HP
            go_wp2_with fail
            refine (rZero14_c p h.out _ s _ hs (by omega)).mono ?_
            rintro e w5 ⟨vP, rfl, oP, h5⟩
            have HP := HP.below h5
            have hd := hd.below h5
            have hs := hs.below h5
            have ht := ht.below h5
            have sA := Rk.below sA h5
            have sB := Rk.below sB h5
            have sC := Rk.below sC h5
            have hB := bt_ hB h5
            replace oP := oP.rk
            obtain ⟨c0, c1, c2, c3, c4, c5⟩ := cells6 HP
            go_wp2_with fail
            refine (rSameB_c _ _ (zeroM p s) (zeroM p s) _ sB oP).mono ?_
            rintro e w5 ⟨rfl, h5⟩
            have HP := HP.below h5
            have hd := hd.below h5
            have hs := hs.below h5
            have ht := ht.below h5
            have sA := Rk.below sA h5
            have sB := Rk.below sB h5
            have sC := Rk.below sC h5
            have hB := bt_ hB h5
            rw [decide_eq_true (rfl : zeroM p s = zeroM p s)]
            go_wp2_with fail
            refine (alive14 _).mono ?_
            rintro e w9 ⟨rfl, h⟩
            have hB := bt_ hB h
            clear h
            go_wp2
            go_ret
            exact ⟨rfl, hB⟩
          · have e6 := e4 g
            have tC : decide ((0 : Int) < (C.length : Int)) = false := decide_eq_false (by omega)
            have tC2 : decide (0 < C.length) = false := decide_eq_false (by omega)
            have gd := Lib.hid (decide_eq_false g)
            replace h := Lib.hid h
            clear e3 e4 e6 g
            go_wp2_with fail
            refine (rIs_c p tg _).mono ?_
            rintro e w5 ⟨rfl, h5⟩
            have HP := HP.below h5
            have hd := hd.below h5
            have hs := hs.below h5
            have ht := ht.below h5
            have sA := Rk.below sA h5
            have sB := Rk.below sB h5
            have sC := Rk.below sC h5
            have hB := bt_ hB h5
            rw [gd.out]
            obtain ⟨c0, c1, c2, c3, c4, c5⟩ := cells6 HP
            clear sC
            have sC := sB
            obtain ⟨c0, c1, c2, c3, c4, c5⟩ := cells6 HP
            go_wp2_with fail
            refine (rDeal14_c p h.out (by have := hL0.out.2.1; omega) _ _ d s _ hd hs (by omega)).mono ?_
            rintro e w5 ⟨vP, rfl, oP, h5⟩
            have HP := HP.below h5
            have hd := hd.below h5
            have hs := hs.below h5
            have ht := ht.below h5
            have sA := Rk.below sA h5
            have sB := Rk.below sB h5
            have sC := Rk.below sC h5
            have hB := bt_ hB h5
            replace oP := oP.rk
            obtain ⟨c0, c1, c2, c3, c4, c5⟩ := cells6 HP
            go_wp2_with fail
            refine (rSameB_c _ _ (dealM p d s) (dealM p d s) _ sA oP).mono ?_
            rintro e w5 ⟨rfl, h5⟩
            have HP := HP.below h5
            have hd := hd.below h5
            have hs := hs.below h5
            have ht := ht.below h5
            have sA := Rk.below sA h5
            have sB := Rk.below sB h5
            have sC := Rk.below sC h5
            have hB := bt_ hB h5
            rw [decide_eq_true (rfl : dealM p d s = dealM p d s)]
            obtain ⟨c0, c1, c2, c3, c4, c5⟩ := cells6 HP
            go_wp2_with fail
            refine (rZero14_c p h.out _ s _ hs (by omega)).mono ?_
            rintro e w5 ⟨vP, rfl, oP, h5⟩
            have HP := HP.below h5
            have hd := hd.below h5
            have hs := hs.below h5
            have ht := ht.below h5
            have sA := Rk.below sA h5
            have sB := Rk.below sB h5
            have sC := Rk.below sC h5
            have hB := bt_ hB h5
            replace oP := oP.rk
            obtain ⟨c0, c1, c2, c3, c4, c5⟩ := cells6 HP
            go_wp2_with fail
            refine (rSameB_c _ _ (zeroM p s) (zeroM p s) _ sB oP).mono ?_
            rintro e w5 ⟨rfl, h5⟩
            have HP := HP.below h5
            have hd := hd.below h5
            have hs := hs.below h5
            have ht := ht.below h5
            have sA := Rk.below sA h5
            have sB := Rk.below sB h5
            have sC := Rk.below sC h5
            have hB := bt_ hB h5
            rw [decide_eq_true (rfl : zeroM p s = zeroM p s)]
            go_wp2_with fail
            refine (alive14 _).mono ?_
            rintro e w9 ⟨rfl, h⟩
            have hB := bt_ hB h
            clear h
            go_wp2
            go_ret
            exact ⟨rfl, hB⟩
        · obtain ⟨e1, e2, e3⟩ := hA.out h
          replace h := Lib.hid h
          go_wp2_with fail
          refine (rRight_no p hi h.out _).mono ?_
          rintro e w5 ⟨rfl, h5⟩
          have HP := HP.below h5
          have hd := hd.below h5
          have hs := hs.below h5
          have ht := ht.below h5
          have sA := Rk.below sA h5
          have sB := Rk.below sB h5
          have sC := Rk.below sC h5
          have hB := bt_ hB h5
          (try rw [e1, e2, e3])
          clear e1 e2 e3
          go_wp2_with fail
          refine (alive14 _).mono ?_
          rintro e w9 ⟨rfl, h⟩
          have hB := bt_ hB h
          clear h
          go_wp2
          go_ret
          exact ⟨rfl, hB⟩
theorem szd_pos {l : List F} {n : Nat} (h : 0 < n) : 0 < (szd l n).length := by rw [szd_len]; exact h
theorem MaskMasks_walk (w : World) (N : Int) (hN : -9223372036854775808 ≤ N ∧ N ≤ 9223372036854775807) (T : Int) (hT : -9223372036854775808 ≤ T ∧ T ≤ 9223372036854775807) (L : Int) (hL : -9223372036854775808 ≤ L ∧ L ≤ 9223372036854775807) (W : Int) (hW : -9223372036854775808 ≤ W ∧ W ≤ 9223372036854775807) (S : Int) (hS : -9223372036854775808 ≤ S ∧ S ≤ 9223372036854775807) (R : Int) (hR : -9223372036854775808 ≤ R ∧ R ≤ 9223372036854775807) (v : Value) (d : List F) (hv : Rb w v d) (u : Value) (s : List F) (hu : Rb w u s) (x : Value) (t : List F) (hx : Rb w x t) (tg : Int) (htg : -9223372036854775808 ≤ tg ∧ tg ≤ 9223372036854775807) (a : Int) (ha : -9223372036854775808 ≤ a ∧ a ≤ 9223372036854775807) :
   Calls Try.prog 31 #[.agg #[.int .i64 N, .int .i64 T, .int .i64 L, .int .i64 W, .int .i64 S, .int .i64 R], .agg #[v, u, x], .agg #[.int .i64 tg, .int .i64 a]] w fun e w' => e = .returned (.bool true) ∧ Below w.heap.size w w' := by
  by_cases hf : Lite ⟨N, T, L, W, S, R⟩ ∧ d.length ≤ 20 ∧ s.length ≤ 30 ∧ t.length ≤ 60
  · obtain ⟨hLt, b1, b2, b3⟩ := hf
    have hi : Pl.In ⟨N, T, L, W, S, R⟩ := ⟨hN, hT, hL, hW, hS, hR⟩
    by_cases h : (Pl.mk N T L W S R).Ok
    · have cA : ∀ (b : Nat) (v u : Value) (w : World), IsField w b → Rb w v d → Rb w u s → Calls Try.prog 140 #[fp b, planV ⟨N, T, L, W, S, R⟩, v, u] w fun e w' => ∃ z, e = .returned z ∧ Rb w' z (dealM ⟨N, T, L, W, S, R⟩ d s) ∧ Below w.heap.size w w' := fun b v u w hF hd hs =>
        (mDeal_c b _ h v u d s w hF hd hs (by omega)).mono fun e w' ⟨z, h1, h2, h3⟩ => ⟨z, h1, h2.rk, h3⟩
      have cB : ∀ (b : Nat) (v : Value) (w : World), IsField w b → Rb w v s → Calls Try.prog 141 #[fp b, planV ⟨N, T, L, W, S, R⟩, v] w fun e w' => ∃ z, e = .returned z ∧ Rb w' z (zeroM ⟨N, T, L, W, S, R⟩ s) ∧ Below w.heap.size w w' := fun b v w hF hs =>
        (mZero_c b _ h v s w hF hs (by omega)).mono fun e w' ⟨z, h1, h2, h3⟩ => ⟨z, h1, h2.rk, h3⟩
      have hT1 := h.t
      have hL1 := h.l
      have hr : T ≤ 12 ∧ L ≤ 12 := ⟨hLt.2.2, hLt.2.1⟩
      have lA : (dealM ⟨N, T, L, W, S, R⟩ d s).length ≤ 1000 ∧ (zeroM ⟨N, T, L, W, S, R⟩ s).length ≤ 1000 := by
        unfold dealM zeroM
        rw [szd_len, szd_len]
        show T.toNat ≤ 1000 ∧ T.toNat ≤ 1000
        omega
      by_cases g : 1 ≤ tg ∧ tg ≤ N
      · have lC : (blindM ⟨N, T, L, W, S, R⟩ s tg).length = (T + L - 1).toNat := szd_len _ _
        have hT1' : (1 : Int) ≤ T := hT1
        have hL1' : (1 : Int) ≤ L := hL1
        refine maskMasks_mid ⟨N, T, L, W, S, R⟩ hi v u x d s t tg a ha w hv hu hx hLt b1 b2 b3 _ _ (blindM ⟨N, T, L, W, S, R⟩ s tg) cA cB (fun b v w hF hs => (mBlind_c b _ h v s tg g w hF hs (by omega)).mono fun e w' ⟨z, h1, h2, h3⟩ => ⟨z, h1, h2.rk, h3⟩) ⟨lA.1, lA.2, by rw [lC]; omega⟩ (fun e => absurd h e) (fun _ => ⟨rfl, rfl, fun _ => ⟨rfl, by rw [lC]; omega⟩, fun e => absurd g e⟩)
      · refine maskMasks_mid ⟨N, T, L, W, S, R⟩ hi v u x d s t tg a ha w hv hu hx hLt b1 b2 b3 _ _ [] cA cB (fun b v w hF hs => (mBlind_out b _ h v tg g w).mono fun e w' ⟨h1, h3⟩ => ⟨_, h1, Rk.nil _ _, h3⟩) ⟨lA.1, lA.2, by simp⟩ (fun e => absurd h e) (fun _ => ⟨rfl, rfl, fun e => absurd e g, fun _ => rfl⟩)
    · refine maskMasks_mid ⟨N, T, L, W, S, R⟩ hi v u x d s t tg a ha w hv hu hx hLt b1 b2 b3 [] [] [] (fun b v u w hF hd hs => (mDeal_no b _ h v u d w hF hd).mono fun e w' ⟨h1, h3⟩ => ⟨_, h1, Rk.nil _ _, h3⟩) (fun b v w hF hs => (mZero_no b _ h v w).mono fun e w' ⟨h1, h3⟩ => ⟨_, h1, Rk.nil _ _, h3⟩)
        (fun b v w hF hs => (mBlind_no b _ h v tg w).mono fun e w' ⟨h1, h3⟩ => ⟨_, h1, Rk.nil _ _, h3⟩) ⟨by simp, by simp, by simp⟩ (fun _ => ⟨rfl, rfl, rfl⟩) (fun e => absurd e h)
  · exact maskMasks_far ⟨N, T, L, W, S, R⟩ v u x d s t tg a w hv hu hx hf
end Go.Proofs.Ytijeabhfddaoaaa
