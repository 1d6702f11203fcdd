/- The walks of the laws of layer 3 (polynomials through points). -/
import Derived.Test.YtijeabhfddaoaaaLa
import Derived.Test.YtijeabhfddaoaaaK5
import Derived.Test.YtijeabhfddaoaaaR03
namespace Go.Proofs.Ytijeabhfddaoaaa
set_option linter.unusedVariables false
open Go.RowKit Go.Proofs.YtijeabhfddaoaaaW.PrintWords Go.Proofs.Sh

set_option maxRecDepth 100000 in
set_option maxHeartbeats 3200000 in
theorem alive03 (w : World) :
   Calls Try.prog 108 #[] w fun e w' => e = .returned (.bool true) ∧ Below w.heap.size w w' := by
  have E1 : Hid (F.thr [0, 1] [F.of 5, F.of 4] [(0 : F), 1].length = [F.of 5, 1]) := Lib.hid (by decide +kernel)
  have N1 : [(0 : F), 1].Nodup := by decide +kernel
  have N2 : ¬ [(1 : F), 1].Nodup := by decide +kernel
  go_enter Try.func108, Try.ntmps108
  go_wp2_with fail
  refine (new_any _).mono ?_
  rintro e w1 ⟨rfl, hF, hB⟩
  have hv := lit_b w1 [0, 1] #[.int .u8 0, .int .u8 1] 5 2 2 rfl rfl (by decide) (by decide)
  have hF := hF.alloc (.cells #[.int .u8 0, .int .u8 1] 5)
  have hB := below_alloc hB (.cells #[.int .u8 0, .int .u8 1] 5)
  have hv := hv.alloc (.cells #[.int .u8 5, .int .u8 4] 5)
  have hu := lit_b (w1.alloc (.cells #[.int .u8 0, .int .u8 1] 5)) [F.of 5, F.of 4] #[.int .u8 5, .int .u8 4] 5 2 2 rfl rfl (by decide) (by decide)
  rw [World.size_alloc] at hu
  have hF := hF.alloc (.cells #[.int .u8 5, .int .u8 4] 5)
  have hB := below_alloc hB (.cells #[.int .u8 5, .int .u8 4] 5)
  go_wp2_with fail
  refine (through_yes _ _ _ _ _ _ hF hv hu rfl N1 (by decide)).mono ?_
  rintro e w2 ⟨z, rfl, hz, h⟩
  rw [E1.out] at hz
  have hB := bt_ hB h
  clear h hF hv hu E1
  go_wp2_with fail
  refine (new_any _).mono ?_
  rintro e w3 ⟨rfl, hF, h⟩
  have hz := hz.below h
  have hB := bt_ hB h
  clear h
  have hv := lit_b w3 [1, 1] #[.int .u8 1, .int .u8 1] 5 2 2 rfl rfl (by decide) (by decide)
  have hz := hz.alloc (.cells #[.int .u8 1, .int .u8 1] 5)
  have hB := below_alloc hB (.cells #[.int .u8 1, .int .u8 1] 5)
  have hv := hv.alloc (.cells #[.int .u8 5, .int .u8 4] 5)
  have hu := lit_b (w3.alloc (.cells #[.int .u8 1, .int .u8 1] 5)) [F.of 5, F.of 4] #[.int .u8 5, .int .u8 4] 5 2 2 rfl rfl (by decide) (by decide)
  rw [World.size_alloc] at hu
  have hz := hz.alloc (.cells #[.int .u8 5, .int .u8 4] 5)
  have hB := below_alloc hB (.cells #[.int .u8 5, .int .u8 4] 5)
  go_wp2_with fail
  refine (through_no _ _ _ _ _ _ hv hu rfl N2).mono ?_
  rintro e w4 ⟨rfl, h⟩
  have hz := (hz.below h).rk
  have hB := bt_ hB h
  clear h hF hv hu
  have hu := lit_b w4 [F.of 5, 1] #[.int .u8 5, .int .u8 1] 5 2 2 rfl rfl (by decide) (by decide)
  have hz := hz.alloc (.cells #[.int .u8 5, .int .u8 1] 5)
  have hB := below_alloc hB (.cells #[.int .u8 5, .int .u8 1] 5)
  go_wp2_with fail
  refine (rSame_c _ _ _ _ _ hz hu).mono ?_
  rintro e w5 ⟨rfl, h⟩
  have hB := bd hB h
  clear h
  rw [decide_eq_true (rfl : [F.of 5, (1 : F)] = [F.of 5, 1])]
  go_wp2
  go_ret
  exact ⟨rfl, hB⟩
set_option maxRecDepth 100000 in
set_option maxHeartbeats 6400000 in
theorem LagrThroughs_walk (w : World) (v : Value) (l : List F) (hv : Rb w v l) (u : Value) (m : List F) (hu : Rb w u m) (x : F) :
   Calls Try.prog 22 #[v, u, .int .u8 (x.n : Int)] w fun e w' => e = .returned (.bool true) ∧ Below w.heap.size w w' := by
  have hB := Below.refl w.heap.size w
  obtain ⟨A, c, rfl, hc, hr⟩ := hv
  obtain ⟨B, d, rfl, hd, hs⟩ := hu
  by_cases g1 : 20 < l.length
  · have t1 : (20 : Int) < (l.length : Int) := by omega
    go_enter Try.func22, Try.ntmps22
    go_wp2_with fail
    refine (alive03 _).mono ?_
    rintro e w9 ⟨rfl, h⟩
    have hB := bt_ hB h
    clear h
    go_wp2
    go_ret
    exact ⟨rfl, hB⟩
  have t1 : decide ((20 : Int) < (l.length : Int)) = false := decide_eq_false (by omega)
  by_cases g2 : 25 < m.length
  · have t2 : (25 : Int) < (m.length : Int) := by omega
    go_enter Try.func22, Try.ntmps22
    go_wp2_with fail
    refine (alive03 _).mono ?_
    rintro e w9 ⟨rfl, h⟩
    have hB := bt_ hB h
    clear h
    go_wp2
    go_ret
    exact ⟨rfl, hB⟩
  have t2 : decide ((25 : Int) < (m.length : Int)) = false := decide_eq_false (by omega)
  have hv : Rb w (.slice A l.length c) l := ⟨A, c, rfl, hc, hr⟩
  have hu : Rb w (.slice B m.length d) m := ⟨B, d, rfl, hd, hs⟩
  have b1 : l.length ≤ 20 := by omega
  have b2 : m.length ≤ 25 := by omega
  by_cases hn : l.Nodup
  · have E1 := Lib.hid (decide_eq_true hn)
    by_cases hlm : l.length = m.length
    · have t3 : ((l.length : Int) != (m.length : Int)) = false := by simp [hlm]
      replace hlm := Lib.hid hlm
      have E2 := Lib.hid (F.nwt_thr (ys := m) hn (by omega : l.length < 255))
      have E3 := Lib.hid (fun j hj => F.thr_at (xs := l) m hn j hj (by omega))
      go_enter Try.func22, Try.ntmps22
      go_wp2_with fail
      refine (new_any _).mono ?_
      rintro e w1 ⟨rfl, hF, hB⟩
      have hv := hv.below hB
      have hu := hu.below hB
      go_wp2_with fail
      refine (through_yes _ _ _ l m _ hF hv hu hlm.out hn (by omega)).mono ?_
      rintro e w2 ⟨z, rfl, hz, h⟩
      have hv := hv.below h
      have hu := hu.below h
      have hF := hF.below h
      have hB := bt_ hB h
      clear h
      have hz := hz.rk
      go_wp2_with fail
      refine (at_yes _ _ _ l m x _ hF hv hu hn hlm.out (by omega)).mono ?_
      rintro e w3 ⟨rfl, h⟩
      have hv := hv.below h
      have hu := hu.below h
      have hz := hz.below h
      have hB := bt_ hB h
      clear h
      go_wp2_with fail
      refine (rUnlike_c _ l _ hv).mono ?_
      rintro e w4 ⟨rfl, h⟩
      have hv := hv.below h.below
      have hu := hu.below h.below
      have hz := hz.below h.below
      have hB := bd hB h
      clear h
      rw [E1.out]
      go_wp2_with fail
      refine (rThrough_c _ _ l m _ hv hu hlm.out (by omega)).mono ?_
      rintro e w5 ⟨z2, rfl, hz2, h⟩
      have hv := hv.below h
      have hu := hu.below h
      have hz := hz.below h
      have hB := bt_ hB h
      clear h
      rw [E2.out] at hz2
      go_wp2_with fail
      refine (rSame_c _ _ _ _ _ hz hz2.rk).mono ?_
      rintro e w6 ⟨rfl, h⟩
      have hv := hv.below h.below
      have hu := hu.below h.below
      have hz := hz.below h.below
      have hB := bd hB h
      clear h
      rw [decide_eq_true (rfl : F.thr l m l.length = F.thr l m l.length)]
      clear hz2
      go_wp2_with fail
      refine (rEval_c _ _ x _ hz).mono ?_
      rintro e w_ ⟨rfl, rfl⟩
      go_wp2_with fail
      have hr := rk_C hv
      have hs := rk_C hu
      have hzl := F.thr_len l m l.length
      generalize hP : F.thr l m l.length = P at *
      clear hP
      go_loopw [12, 89] (fun _ i wr => ∃ k : Nat, k ≤ l.length ∧ i = .int .i64 k ∧ Below w6.heap.size w6 wr ∧ Below w.heap.size w wr) (fun _ i _ => l.length - (intOf i).toNat)
      case atStart => exact ⟨0, by omega, rfl, Below.refl _ _, hB⟩
      case round =>
        clear hB
        obtain ⟨k, hk, rfl, hB6, hB⟩ := hrel
        by_cases hlt : k < l.length
        · obtain ⟨ad, rfl, c1⟩ := kb_at (Kd.C_below hr hB6) k hlt
          obtain ⟨ad', rfl, c2⟩ := kb_at (Kd.C_below hs hB6) k (by rw [← hlm.out]; exact hlt)
          have hlt' : (k : Int) < (m.length : Int) := by rw [← hlm.out]; omega
          have hz := hz.below hB6
          have e3 := E3.out k hlt
          generalize l.getD k 0 = a at *
          generalize m.getD k 0 = y at *
          subst e3
          go_wp2_with fail
          go_quiet ((first | (go_at_call 76; exact qs (rEval_c _ P a _ (hz.drewN _))) | fail))
          go_wp2
          exact ⟨⟨k + 1, by omega, by go_num, pw_below_drewN hB6 _, pw_below_drewN hB _⟩, by simp [intOf]; try omega⟩
        · obtain rfl : k = l.length := by omega
          go_wp2_with fail
          refine (alive03 _).mono ?_
          rintro e w9 ⟨rfl, h⟩
          have hB := bt_ hB h
          clear h
          go_wp2
          go_ret
          exact ⟨rfl, hB⟩
    · have t3 : ((l.length : Int) != (m.length : Int)) = true := bne_iff_ne.2 (by omega)
      go_enter Try.func22, Try.ntmps22
      go_wp2_with fail
      refine (new_any _).mono ?_
      rintro e w1 ⟨rfl, hF, hB⟩
      have hv := hv.below hB
      have hu := hu.below hB
      go_wp2_with fail
      refine (through_len _ _ _ l m _ hv hu hlm).mono ?_
      rintro e w2 ⟨rfl, h⟩
      have hv := hv.below h
      have hu := hu.below h
      have hF := hF.below h
      have hB := bt_ hB h
      clear h
      go_wp2_with fail
      refine (at_len _ _ _ l m x _ hF hv hu hn hlm (by omega)).mono ?_
      rintro e w3 ⟨rfl, h⟩
      have hv := hv.below h
      have hu := hu.below h
      have hB := bt_ hB h
      clear h
      go_wp2_with fail
      refine (rUnlike_c _ l _ hv).mono ?_
      rintro e w4 ⟨rfl, h⟩
      have hv := hv.below h.below
      have hu := hu.below h.below
      have hB := bd hB h
      clear h
      rw [E1.out]
      go_wp2_with fail
      refine (alive03 _).mono ?_
      rintro e w9 ⟨rfl, h⟩
      have hB := bt_ hB h
      clear h
      go_wp2
      go_ret
      exact ⟨rfl, hB⟩
  · have E1 := Lib.hid (decide_eq_false hn)
    by_cases hlm : l.length = m.length
    · replace hlm := Lib.hid hlm
      go_enter Try.func22, Try.ntmps22
      go_wp2_with fail
      refine (new_any _).mono ?_
      rintro e w1 ⟨rfl, hF, hB⟩
      have hv := hv.below hB
      have hu := hu.below hB
      go_wp2_with fail
      refine (through_no _ _ _ l m _ hv hu hlm.out hn).mono ?_
      rintro e w2 ⟨rfl, h⟩
      have hv := hv.below h
      have hu := hu.below h
      have hF := hF.below h
      have hB := bt_ hB h
      clear h
      go_wp2_with fail
      refine (at_no _ _ _ l m x _ hv hu hn).mono ?_
      rintro e w3 ⟨rfl, h⟩
      have hv := hv.below h
      have hu := hu.below h
      have hB := bt_ hB h
      clear h
      go_wp2_with fail
      refine (rUnlike_c _ l _ hv).mono ?_
      rintro e w4 ⟨rfl, h⟩
      have hv := hv.below h.below
      have hu := hu.below h.below
      have hB := bd hB h
      clear h
      rw [E1.out]
      go_wp2_with fail
      refine (alive03 _).mono ?_
      rintro e w9 ⟨rfl, h⟩
      have hB := bt_ hB h
      clear h
      go_wp2
      go_ret
      exact ⟨rfl, hB⟩
    · go_enter Try.func22, Try.ntmps22
      go_wp2_with fail
      refine (new_any _).mono ?_
      rintro e w1 ⟨rfl, hF, hB⟩
      have hv := hv.below hB
      have hu := hu.below hB
      go_wp2_with fail
      refine (through_len _ _ _ l m _ hv hu hlm).mono ?_
      rintro e w2 ⟨rfl, h⟩
      have hv := hv.below h
      have hu := hu.below h
      have hF := hF.below h
      have hB := bt_ hB h
      clear h
      go_wp2_with fail
      refine (at_no _ _ _ l m x _ hv hu hn).mono ?_
      rintro e w3 ⟨rfl, h⟩
      have hv := hv.below h
      have hu := hu.below h
      have hB := bt_ hB h
      clear h
      go_wp2_with fail
      refine (rUnlike_c _ l _ hv).mono ?_
      rintro e w4 ⟨rfl, h⟩
      have hv := hv.below h.below
      have hu := hu.below h.below
      have hB := bd hB h
      clear h
      rw [E1.out]
      go_wp2_with fail
      refine (alive03 _).mono ?_
      rintro e w9 ⟨rfl, h⟩
      have hB := bt_ hB h
      clear h
      go_wp2
      go_ret
      exact ⟨rfl, hB⟩
set_option maxRecDepth 100000 in
set_option maxHeartbeats 6400000 in
theorem LagrWeights_walk (w : World) (v : Value) (l : List F) (hv : Rb w v l) (u : Value) (m : List F) (hu : Rb w u m) (x : F) :
   Calls Try.prog 19 #[v, u, .int .u8 (x.n : Int)] w fun e w' => e = .returned (.bool true) ∧ Below w.heap.size w w' := by
  have hB := Below.refl w.heap.size w
  obtain ⟨A, c, rfl, hc, hr⟩ := hv
  obtain ⟨B, d, rfl, hd, hs⟩ := hu
  by_cases g1 : 20 < l.length
  · have t1 : (20 : Int) < (l.length : Int) := by omega
    go_enter Try.func19, Try.ntmps19
    go_wp2_with fail
    refine (alive03 _).mono ?_
    rintro e w9 ⟨rfl, h⟩
    have hB := bt_ hB h
    clear h
    go_wp2
    go_ret
    exact ⟨rfl, hB⟩
  have t1 : decide ((20 : Int) < (l.length : Int)) = false := decide_eq_false (by omega)
  by_cases g2 : 20 < m.length
  · have t2 : (20 : Int) < (m.length : Int) := by omega
    go_enter Try.func19, Try.ntmps19
    go_wp2_with fail
    refine (alive03 _).mono ?_
    rintro e w9 ⟨rfl, h⟩
    have hB := bt_ hB h
    clear h
    go_wp2
    go_ret
    exact ⟨rfl, hB⟩
  have t2 : decide ((20 : Int) < (m.length : Int)) = false := decide_eq_false (by omega)
  have hv : Rb w (.slice A l.length c) l := ⟨A, c, rfl, hc, hr⟩
  have hu : Rb w (.slice B m.length d) m := ⟨B, d, rfl, hd, hs⟩
  have b1 : l.length ≤ 20 := by omega
  have b2 : m.length ≤ 20 := by omega
  by_cases hn : l.Nodup
  · have E1 := Lib.hid (decide_eq_true hn)
    by_cases hpl : l.length < m.length
    · have t3 : decide ((l.length : Int) < (m.length : Int)) = true := decide_eq_true (by omega)
      go_enter Try.func19, Try.ntmps19
      go_wp2_with fail
      refine (new_any _).mono ?_
      rintro e w1 ⟨rfl, hF, hB⟩
      have hv := hv.below hB
      have hu := hu.below hB
      go_wp2_with fail
      refine (weights_yes _ _ l x _ hF hv hn (by omega)).mono ?_
      rintro e w2 ⟨z, rfl, hz, h⟩
      have hv := hv.below h
      have hB := bt_ hB h
      clear h
      have hz := hz.rk
      go_wp2_with fail
      refine (rUnlike_c _ l _ hv).mono ?_
      rintro e w4 ⟨rfl, h⟩
      have hv := hv.below h.below
      have hz := hz.below h.below
      have hB := bd hB h
      clear h
      rw [E1.out]
      go_wp2_with fail
      refine (rWeights_c _ l x _ hv (by omega)).mono ?_
      rintro e w5 ⟨z2, rfl, hz2, h⟩
      have hv := hv.below h
      have hz := hz.below h
      have hB := bt_ hB h
      clear h
      go_wp2_with fail
      refine (rSame_c _ _ _ _ _ hz hz2.rk).mono ?_
      rintro e w6 ⟨rfl, h⟩
      have hz := hz.below h.below
      have hB := bd hB h
      clear h
      rw [decide_eq_true (rfl : F.wts l x = F.wts l x)]
      go_wp2_with fail
      refine (alive03 _).mono ?_
      rintro e w9 ⟨rfl, h⟩
      have hB := bt_ hB h
      clear h
      go_wp2
      go_ret
      exact ⟨rfl, hB⟩
    · have t3 : decide ((l.length : Int) < (m.length : Int)) = false := decide_eq_false (by omega)
      have E2 := Lib.hid (F.dot_wts_ev (p := m) hn (by omega) (by omega) x)
      go_enter Try.func19, Try.ntmps19
      go_wp2_with fail
      refine (new_any _).mono ?_
      rintro e w1 ⟨rfl, hF, hB⟩
      have hv := hv.below hB
      have hu := hu.below hB
      go_wp2_with fail
      refine (weights_yes _ _ l x _ hF hv hn (by omega)).mono ?_
      rintro e w2 ⟨z, rfl, hz, h⟩
      have hv := hv.below h
      have hu := hu.below h
      have hB := bt_ hB h
      clear h
      have hz := hz.rk
      go_wp2_with fail
      refine (rUnlike_c _ l _ hv).mono ?_
      rintro e w4 ⟨rfl, h⟩
      have hv := hv.below h.below
      have hu := hu.below h.below
      have hz := hz.below h.below
      have hB := bd hB h
      clear h
      rw [E1.out]
      go_wp2_with fail
      refine (rWeights_c _ l x _ hv (by omega)).mono ?_
      rintro e w5 ⟨z2, rfl, hz2, h⟩
      have hv := hv.below h
      have hu := hu.below h
      have hz := hz.below h
      have hB := bt_ hB h
      clear h
      go_wp2_with fail
      refine (rSame_c _ _ _ _ _ hz hz2.rk).mono ?_
      rintro e w6 ⟨rfl, h⟩
      have hv := hv.below h.below
      have hu := hu.below h.below
      have hz := hz.below h.below
      have hB := bd hB h
      clear h
      rw [decide_eq_true (rfl : F.wts l x = F.wts l x)]
      clear hz2
      go_wp2_with fail
      have hr := rk_C hv
      go_loopw [10, 12, 61] (fun s _ i wr => ∃ k : Nat, k ≤ l.length ∧ i = .int .i64 k ∧ Ob w6 wr s ((l.take k).map fun c => F.ev c m) ∧ Below w6.heap.size w6 wr) (fun _ _ i _ => l.length - (intOf i).toNat)
      case atStart => exact ⟨0, by omega, rfl, Own.nil _ _ _ _, Below.refl _ _⟩
      case round =>
        obtain ⟨k, hk, rfl, hO, hB6⟩ := hrel
        by_cases hlt : k < l.length
        · have HS := Lib.hid (congrArg (List.map fun c => F.ev c m) (take_snoc' l k 0 hlt))
          obtain ⟨ad, rfl, c1⟩ := kb_at (Kd.C_below hr hB6) k hlt
          have hu' := hu.below hB6
          generalize l.getD k 0 = a at *
          go_wp2_with fail
          refine (rEval_c _ m a _ hu').mono ?_
          rintro e w_ ⟨rfl, rfl⟩
          have c1 := c1
          generalize hy : F.ev a m = y at *
          have hy := Lib.hid hy
          go_wp2_with (at_builtin; refine app_one (enc := bV) rfl (.tmp 65) (.tmp 69) 40 5 (.int .u8 0) 1 rfl Try.underlying40 infoB rfl (by decide) _ _ y rfl rfl _ (bV_eq ?hc) hO hB6 ?hl ?_; (case hc => (first | exact rfl | exact rfl)); (case hl => (first | (simp; omega) | omega)); intro v1 w1 ho hb hg)
          exact ⟨⟨k + 1, by omega, by go_num, by rw [HS.out, List.map_append]; show Ob _ _ _ (_ ++ [F.ev a m]); rw [hy.out]; exact ho, hb⟩, by simp [intOf]; try omega⟩
        · obtain rfl : k = l.length := by omega
          rw [List.take_length] at hO
          have hv := hv.below hB6
          have hu := hu.below hB6
          have hz := hz.below hB6
          have hB := bt_ hB hB6
          clear hB6 hr
          have hO := hO.rk
          go_wp2_with fail
          refine (rDot_c _ _ _ _ _ hz hO).mono ?_
          rintro e w8 ⟨rfl, h⟩
          have hu := hu.below h.below
          have hB := bd hB h
          clear h
          rw [E2.out]
          go_wp2_with fail
          refine (rEval_c _ m x _ hu).mono ?_
          rintro e w_ ⟨rfl, rfl⟩
          go_wp2_with fail
          refine (alive03 _).mono ?_
          rintro e w9 ⟨rfl, h⟩
          have hB := bt_ hB h
          clear h
          go_wp2
          go_ret
          exact ⟨rfl, hB⟩
  · have E1 := Lib.hid (decide_eq_false hn)
    go_enter Try.func19, Try.ntmps19
    go_wp2_with fail
    refine (new_any _).mono ?_
    rintro e w1 ⟨rfl, hF, hB⟩
    have hv := hv.below hB
    go_wp2_with fail
    refine (weights_no _ _ _ x _ hv hn).mono ?_
    rintro e w2 ⟨rfl, h⟩
    have hv := hv.below h
    have hB := bt_ hB h
    clear h
    go_wp2_with fail
    refine (rUnlike_c _ l _ hv).mono ?_
    rintro e w4 ⟨rfl, h⟩
    have hv := hv.below h.below
    have hB := bd hB h
    clear h
    rw [E1.out]
    go_wp2_with fail
    refine (alive03 _).mono ?_
    rintro e w9 ⟨rfl, h⟩
    have hB := bt_ hB h
    clear h
    go_wp2
    go_ret
    exact ⟨rfl, hB⟩
set_option maxRecDepth 100000 in
set_option maxHeartbeats 6400000 in
theorem LagrOnce_walk (w : World) (v : Value) (l : List F) (hv : Rb w v l) (u : Value) (m : List F) (hu : Rb w u m) :
   Calls Try.prog 18 #[v, u] w fun e w' => e = .returned (.bool true) ∧ Below w.heap.size w w' := by
  have hB := Below.refl w.heap.size w
  obtain ⟨A, c, rfl, hc, hr⟩ := hv
  obtain ⟨B, d, rfl, hd, hs⟩ := hu
  by_cases g1 : 20 < l.length
  · have t1 : (20 : Int) < (l.length : Int) := by omega
    go_enter Try.func18, Try.ntmps18
    go_wp2_with fail
    refine (alive03 _).mono ?_
    rintro e w9 ⟨rfl, h⟩
    have hB := bt_ hB h
    clear h
    go_wp2
    go_ret
    exact ⟨rfl, hB⟩
  have t1 : decide ((20 : Int) < (l.length : Int)) = false := decide_eq_false (by omega)
  by_cases g2 : l.length < m.length
  · have t2 : (l.length : Int) < (m.length : Int) := by omega
    go_enter Try.func18, Try.ntmps18
    go_wp2_with fail
    refine (alive03 _).mono ?_
    rintro e w9 ⟨rfl, h⟩
    have hB := bt_ hB h
    clear h
    go_wp2
    go_ret
    exact ⟨rfl, hB⟩
  have t2 : decide ((l.length : Int) < (m.length : Int)) = false := decide_eq_false (by omega)
  have hv : Rb w (.slice A l.length c) l := ⟨A, c, rfl, hc, hr⟩
  have hu : Rb w (.slice B m.length d) m := ⟨B, d, rfl, hd, hs⟩
  by_cases hn : l.Nodup
  · have E1 := Lib.hid (decide_eq_true hn)
    have E3 := Lib.hid (fun k => F.thr_uniq (ys := l.map fun c => F.ev c m) hn (by omega : l.length < 255) (by omega : m.length ≤ l.length) (fun j hj => by simp [List.getD_eq_getElem?_getD, hj]) k)
    go_enter Try.func18, Try.ntmps18
    go_wp2_with fail
    refine (rUnlike_c _ l _ hv).mono ?_
    rintro e w6 ⟨rfl, h⟩
    have hv := hv.below h.below
    have hu := hu.below h.below
    have hB := bd hB h
    clear h
    rw [E1.out]
    go_wp2_with fail
    have hr := rk_C hv
    go_loopw [5, 7, 29] (fun s _ i wr => ∃ k : Nat, k ≤ l.length ∧ i = .int .i64 k ∧ Ob w6 wr s ((l.take k).map fun c => F.ev c m) ∧ Below w6.heap.size w6 wr) (fun _ _ i _ => l.length - (intOf i).toNat)
    case atStart => exact ⟨0, by omega, rfl, Own.nil _ _ _ _, Below.refl _ _⟩
    case round =>
      obtain ⟨k, hk, rfl, hO, hB6⟩ := hrel
      by_cases hlt : k < l.length
      · have HS := Lib.hid (congrArg (List.map fun c => F.ev c m) (take_snoc' l k 0 hlt))
        obtain ⟨ad, rfl, c1⟩ := kb_at (Kd.C_below hr hB6) k hlt
        have hu' := hu.below hB6
        generalize l.getD k 0 = a at *
        go_wp2_with fail
        refine (rEval_c _ m a _ hu').mono ?_
        rintro e w_ ⟨rfl, rfl⟩
        have c1 := c1
        generalize hy : F.ev a m = y at *
        have hy := Lib.hid hy
        go_wp2_with (at_builtin; refine app_one (enc := bV) rfl (.tmp 33) (.tmp 37) 40 5 (.int .u8 0) 1 rfl Try.underlying40 infoB rfl (by decide) _ _ y rfl rfl _ (bV_eq ?hc) hO hB6 ?hl ?_; (case hc => (first | exact rfl | exact rfl)); (case hl => (first | (simp; omega) | omega)); intro v1 w1 ho hb hg)
        exact ⟨⟨k + 1, by omega, by go_num, by rw [HS.out, List.map_append]; show Ob _ _ _ (_ ++ [F.ev a m]); rw [hy.out]; exact ho, hb⟩, by simp [intOf]; try omega⟩
      · obtain rfl : k = l.length := by omega
        rw [List.take_length] at hO
        have hv := hv.below hB6
        have hu := hu.below hB6
        have hB := bt_ hB hB6
        clear hB6 hr
        go_wp2_with fail
        refine (new_any _).mono ?_
        rintro e w7 ⟨rfl, hF, h⟩
        have hv := hv.below h
        have hu := hu.below h
        have hO := (hO.below h).rk
        have hB := bt_ hB h
        clear h
        go_wp2_with fail
        refine (through_yes _ _ _ l _ _ hF hv hO (by rw [List.length_map]) hn (by omega)).mono ?_
        rintro e w8 ⟨z, rfl, hz, h⟩
        have hu := hu.below h
        have hB := bt_ hB h
        have hz := hz.rk
        clear h hv hO hF
        have hzl := F.thr_len l (l.map fun c => F.ev c m) l.length
        replace hzl := Lib.hid hzl
        generalize hP : F.thr l (l.map fun c => F.ev c m) l.length = P at *
        replace hP := Lib.hid hP
        obtain ⟨A3, c3, rfl⟩ := rk_form hz
        rw [hzl.out] at hz ⊢
        go_wp2_with fail
        go_loop [10, 51] (fun _ i => ∃ k : Nat, k ≤ l.length ∧ i = .int .i64 k) (fun _ i => l.length - (intOf i).toNat)
        case atStart => exact ⟨0, by omega, rfl⟩
        case round =>
          obtain ⟨k, hk, rfl⟩ := hrel
          by_cases hlt : k < l.length
          · go_wp2_with fail
            refine (rAt_c _ P (k : Int) k (F.at_ m k) rfl (by omega) (E3.out k) _ hz).mono ?_
            rintro e w_ ⟨rfl, rfl⟩
            go_wp2_with fail
            refine (rAt_c _ m (k : Int) k (F.at_ m k) rfl (by omega) rfl _ hu).mono ?_
            rintro e w_ ⟨rfl, rfl⟩
            go_wp2
            exact ⟨⟨k + 1, by omega, by go_num⟩, by simp [intOf]; try omega⟩
          · obtain rfl : k = l.length := by omega
            go_wp2_with fail
            refine (alive03 _).mono ?_
            rintro e w9 ⟨rfl, h⟩
            have hB := bt_ hB h
            clear h
            go_wp2
            go_ret
            exact ⟨rfl, hB⟩
  · have E1 := Lib.hid (decide_eq_false hn)
    go_enter Try.func18, Try.ntmps18
    go_wp2_with fail
    refine (rUnlike_c _ l _ hv).mono ?_
    rintro e w6 ⟨rfl, h⟩
    have hB := bd hB h
    clear h
    rw [E1.out]
    go_wp2_with fail
    refine (alive03 _).mono ?_
    rintro e w9 ⟨rfl, h⟩
    have hB := bt_ hB h
    clear h
    go_wp2
    go_ret
    exact ⟨rfl, hB⟩
end Go.Proofs.Ytijeabhfddaoaaa
