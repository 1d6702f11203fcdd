/- The walks of the laws of layer 2 (polynomials). -/
import Derived.Test.YtijeabhfddaoaaaPo
import Derived.Test.YtijeabhfddaoaaaR02
namespace Go.Proofs.Ytijeabhfddaoaaa
set_option linter.unusedVariables false
open Go.RowKit Go.Proofs.YtijeabhfddaoaaaW.PrintWords Go.Proofs.Sh

set_option maxRecDepth 100000 in
set_option maxHeartbeats 1600000 in
theorem alive02 (w : World) :
   Calls Try.prog 71 #[] w fun e w' => e = .returned (.bool true) ∧ Below w.heap.size w w' := by
  have E1 : Hid (decide (F.rt [1, F.of 2] = [F.of 2, F.of 3, 1]) = true) := Lib.hid (by decide +kernel)
  have E2 : Hid (((F.ev 1 [F.of 2, F.of 3, 1]).n : Int) = 0) := Lib.hid (by decide +kernel)
  have E3 : Hid (F.deg [0, F.of 4, 0] = 1) := Lib.hid (by decide +kernel)
  go_enter Try.func71, Try.ntmps71
  go_wp2_with fail
  refine (new_any _).mono ?_
  rintro e w1 ⟨rfl, hF, hB⟩
  have hu := lit_b w1 [1, F.of 2] #[.int .u8 1, .int .u8 2] 5 2 2 rfl rfl (by decide) (by decide)
  have hF := hF.alloc (.cells #[.int .u8 1, .int .u8 2] 5)
  have hB := below_alloc hB (.cells #[.int .u8 1, .int .u8 2] 5)
  go_wp2_with fail
  refine (pRoot_c _ _ _ _ hF hu (by simp)).mono ?_
  rintro e w2 ⟨z, rfl, hz, h⟩
  have hF := hF.below h
  have hB := bt_ hB h
  clear h
  have hz := hz.rk
  clear hu
  have hu := lit_b w2 [F.of 2, F.of 3, 1] #[.int .u8 2, .int .u8 3, .int .u8 1] 5 3 3 rfl rfl (by decide) (by decide)
  have hF := hF.alloc (.cells #[.int .u8 2, .int .u8 3, .int .u8 1] 5)
  have hz := hz.alloc (.cells #[.int .u8 2, .int .u8 3, .int .u8 1] 5)
  have hB := below_alloc hB (.cells #[.int .u8 2, .int .u8 3, .int .u8 1] 5)
  go_wp2_with fail
  refine (rSame_c _ _ _ _ _ hz hu).mono ?_
  rintro e w3 ⟨rfl, h⟩
  have hF := hF.below h.below
  have hB := bd hB h
  clear h
  rw [E1.out]
  clear hz hu
  have hu := lit_b w3 [F.of 2, F.of 3, 1] #[.int .u8 2, .int .u8 3, .int .u8 1] 5 3 3 rfl rfl (by decide) (by decide)
  have hF := hF.alloc (.cells #[.int .u8 2, .int .u8 3, .int .u8 1] 5)
  have hB := below_alloc hB (.cells #[.int .u8 2, .int .u8 3, .int .u8 1] 5)
  go_wp2_with fail
  refine (pEval_c _ _ _ 1 _ hF hu).mono ?_
  rintro e w4 ⟨rfl, h⟩
  have hB := bd hB h
  clear h
  rw [E2.out]
  clear hu hF
  have hu := lit_b w4 [0, F.of 4, 0] #[.int .u8 0, .int .u8 4, .int .u8 0] 5 3 3 rfl rfl (by decide) (by decide)
  have hB := below_alloc hB (.cells #[.int .u8 0, .int .u8 4, .int .u8 0] 5)
  go_wp2_with fail
  refine (pDegree_c _ _ _ hu).mono ?_
  rintro e w_ ⟨rfl, rfl⟩
  rw [E3.out]
  go_wp2
  go_ret
  exact ⟨rfl, hB⟩

set_option maxRecDepth 100000 in
set_option maxHeartbeats 6400000 in
theorem PolyEvals_walk (w : World) (v : Value) (l : List F) (hv : Rb w v l) (u : Value) (m : List F) (hu : Rb w u m) (x : F) :
   Calls Try.prog 13 #[v, u, .int .u8 (x.n : Int)] w fun e w' => e = .returned (.bool true) ∧ Below w.heap.size w w' := by
  have hB := Below.refl w.heap.size w
  obtain ⟨A, c, rfl, hc, hr⟩ := hv
  obtain ⟨B, d, rfl, hd, hs⟩ := hu
  by_cases g1 : 60 < l.length
  · have t1 : (60 : Int) < (l.length : Int) := by omega
    go_enter Try.func13, Try.ntmps13
    go_wp2_with fail
    refine (alive02 _).mono ?_
    rintro e w9 ⟨rfl, h⟩
    have hB := bt_ hB h
    clear h
    go_wp2
    go_ret
    exact ⟨rfl, hB⟩
  have t1 : decide ((60 : Int) < (l.length : Int)) = false := decide_eq_false (by omega)
  by_cases g2 : 60 < m.length
  · have t2 : (60 : Int) < (m.length : Int) := by omega
    go_enter Try.func13, Try.ntmps13
    go_wp2_with fail
    refine (alive02 _).mono ?_
    rintro e w9 ⟨rfl, h⟩
    have hB := bt_ hB h
    clear h
    go_wp2
    go_ret
    exact ⟨rfl, hB⟩
  have t2 : decide ((60 : Int) < (m.length : Int)) = false := decide_eq_false (by omega)
  have hv : Rb w (.slice A l.length c) l := ⟨A, c, rfl, hc, hr⟩
  have hu : Rb w (.slice B m.length d) m := ⟨B, d, rfl, hd, hs⟩
  have b1 : l.length ≤ 1000 := by omega
  have b2 : m.length ≤ 1000 := by omega
  clear hc hr hd hs
  go_enter Try.func13, Try.ntmps13
  go_wp2_with fail
  refine (new_any _).mono ?_
  rintro e w1 ⟨rfl, hF, hB⟩
  have hv := hv.below hB
  have hu := hu.below hB
  go_wp2_with fail
  refine (pEval_c _ _ l x _ hF hv).mono ?_
  rintro e w2 ⟨rfl, h⟩
  have hF := hF.below h.below
  have hv := hv.below h.below
  have hu := hu.below h.below
  have hB := bd hB h
  clear h
  go_wp2_with fail
  refine (rEval_c _ l x _ hv).mono ?_
  rintro e w_ ⟨rfl, rfl⟩
  go_wp2_with fail
  refine (pDegree_c _ l _ hv).mono ?_
  rintro e w_ ⟨rfl, rfl⟩
  go_wp2_with fail
  refine (rDegree_c _ l _ hv).mono ?_
  rintro e w_ ⟨rfl, rfl⟩
  go_wp2_with fail
  refine (pSum_c _ _ l m _ hv hu (by omega) (by omega)).mono ?_
  rintro e w3 ⟨z, rfl, hz, h⟩
  have hF := hF.below h
  have hv := hv.below h
  have hu := hu.below h
  have hB := bt_ hB h
  clear h
  go_wp2_with fail
  refine (rSum_c _ _ l m _ hv hu (by omega) (by omega)).mono ?_
  rintro e w4 ⟨z', rfl, hz', h⟩
  have hF := hF.below h
  have hv := hv.below h
  have hz := hz.below h
  have hB := bt_ hB h
  clear h
  go_wp2_with fail
  refine (rSame_c _ _ _ _ _ hz.rk hz'.rk).mono ?_
  rintro e w5 ⟨rfl, h⟩
  have hF := hF.below h.below
  have hv := hv.below h.below
  have hB := bd hB h
  clear h
  rw [decide_eq_true (rfl : F.padd l m = F.padd l m)]
  clear hz hz'
  go_wp2_with fail
  refine (pScale_c _ _ l x _ hF hv (by omega)).mono ?_
  rintro e w6 ⟨z, rfl, hz, h⟩
  have hv := hv.below h
  have hB := bt_ hB h
  clear h
  go_wp2_with fail
  refine (rScale_c _ l x _ hv (by omega)).mono ?_
  rintro e w7 ⟨z', rfl, hz', h⟩
  have hz := hz.below h
  have hB := bt_ hB h
  clear h
  go_wp2_with fail
  refine (rSame_c _ _ _ _ _ hz.rk hz'.rk).mono ?_
  rintro e w8 ⟨rfl, h⟩
  have hB := bd hB h
  clear h
  rw [decide_eq_true (rfl : F.psc x l = F.psc x l)]
  go_wp2_with fail
  refine (alive02 _).mono ?_
  rintro e w9 ⟨rfl, h⟩
  have hB := bt_ hB h
  clear h
  go_wp2
  go_ret
  exact ⟨rfl, hB⟩
set_option maxRecDepth 100000 in
set_option maxHeartbeats 6400000 in
theorem PolyMuls_walk (w : World) (v : Value) (l : List F) (hv : Rb w v l) (u : Value) (m : List F) (hu : Rb w u m) (x : F) :
   Calls Try.prog 10 #[v, u, .int .u8 (x.n : Int)] w fun e w' => e = .returned (.bool true) ∧ Below w.heap.size w w' := by
  have hB := Below.refl w.heap.size w
  obtain ⟨A, c, rfl, hc, hr⟩ := hv
  obtain ⟨B, d, rfl, hd, hs⟩ := hu
  by_cases g1 : 40 < l.length
  · have t1 : (40 : Int) < (l.length : Int) := by omega
    go_enter Try.func10, Try.ntmps10
    go_wp2_with fail
    refine (alive02 _).mono ?_
    rintro e w9 ⟨rfl, h⟩
    have hB := bt_ hB h
    clear h
    go_wp2
    go_ret
    exact ⟨rfl, hB⟩
  have t1 : decide ((40 : Int) < (l.length : Int)) = false := decide_eq_false (by omega)
  by_cases g2 : 40 < m.length
  · have t2 : (40 : Int) < (m.length : Int) := by omega
    go_enter Try.func10, Try.ntmps10
    go_wp2_with fail
    refine (alive02 _).mono ?_
    rintro e w9 ⟨rfl, h⟩
    have hB := bt_ hB h
    clear h
    go_wp2
    go_ret
    exact ⟨rfl, hB⟩
  have t2 : decide ((40 : Int) < (m.length : Int)) = false := decide_eq_false (by omega)
  have hv : Rb w (.slice A l.length c) l := ⟨A, c, rfl, hc, hr⟩
  have hu : Rb w (.slice B m.length d) m := ⟨B, d, rfl, hd, hs⟩
  have b1 : l.length ≤ 1000 := by omega
  have b2 : m.length ≤ 1000 := by omega
  clear hc hr hd hs
  have E1 : Hid (((F.ev x (F.padd l m)).n : Int) = ((F.ev x l + F.ev x m).n : Int)) := Lib.hid (by rw [F.ev_padd])
  have E2 : Hid (((F.ev x (F.pmul l m)).n : Int) = ((F.ev x l * F.ev x m).n : Int)) := Lib.hid (by rw [F.ev_pmul])
  have hX := xor8 (F.ev x l) (F.ev x m)
  go_enter Try.func10, Try.ntmps10
  go_wp2_with fail
  refine (new_any _).mono ?_
  rintro e w1 ⟨rfl, hF, hB⟩
  have hv := hv.below hB
  have hu := hu.below hB
  go_wp2_with fail
  refine (pMul_c _ _ _ l m _ hF hv hu (by omega) (by omega)).mono ?_
  rintro e w2 ⟨z, rfl, hz, h⟩
  have hF := hF.below h
  have hv := hv.below h
  have hu := hu.below h
  have hB := bt_ hB h
  clear h
  go_wp2_with fail
  refine (rMul2_c _ _ l m _ hv hu (by omega) (by omega)).mono ?_
  rintro e w3 ⟨z', rfl, hz', h⟩
  have hF := hF.below h
  have hv := hv.below h
  have hu := hu.below h
  have hz := hz.below h
  have hB := bt_ hB h
  clear h
  go_wp2_with fail
  refine (rSame_c _ _ _ _ _ hz.rk hz'.rk).mono ?_
  rintro e w5 ⟨rfl, h⟩
  have hF := hF.below h.below
  have hv := hv.below h.below
  have hu := hu.below h.below
  have hz := hz.below h.below
  have hB := bd hB h
  clear h
  rw [decide_eq_true (rfl : F.pmul l m = F.pmul l m)]
  clear hz'
  go_wp2_with fail
  refine (pSum_c _ _ l m _ hv hu (by omega) (by omega)).mono ?_
  rintro e w6 ⟨z', rfl, hz', h⟩
  have hF := hF.below h
  have hv := hv.below h
  have hu := hu.below h
  have hz := hz.below h
  have hB := bt_ hB h
  clear h
  go_wp2_with fail
  refine (pEval_c _ _ _ x _ hF hz'.rk).mono ?_
  rintro e w7 ⟨rfl, h⟩
  have hF := hF.below h.below
  have hv := hv.below h.below
  have hu := hu.below h.below
  have hz := hz.below h.below
  have hB := bd hB h
  clear h
  rw [E1.out]
  clear hz'
  go_wp2_with fail
  refine (pEval_c _ _ _ x _ hF hv).mono ?_
  rintro e w8 ⟨rfl, h⟩
  have hF := hF.below h.below
  have hv := hv.below h.below
  have hu := hu.below h.below
  have hz := hz.below h.below
  have hB := bd hB h
  clear h
  go_wp2_with fail
  refine (pEval_c _ _ _ x _ hF hu).mono ?_
  rintro e w10 ⟨rfl, h⟩
  have hF := hF.below h.below
  have hv := hv.below h.below
  have hu := hu.below h.below
  have hz := hz.below h.below
  have hB := bd hB h
  clear h
  go_wp2_with fail
  refine (pEval_c _ _ _ x _ hF hz.rk).mono ?_
  rintro e w11 ⟨rfl, h⟩
  have hF := hF.below h.below
  have hv := hv.below h.below
  have hu := hu.below h.below
  have hB := bd hB h
  clear h
  rw [E2.out]
  go_wp2_with fail
  refine (rEval_c _ l x _ hv).mono ?_
  rintro e w_ ⟨rfl, rfl⟩
  go_wp2_with fail
  refine (rEval_c _ m x _ hu).mono ?_
  rintro e w_ ⟨rfl, rfl⟩
  go_wp2_with fail
  refine (rMul_c _ _ _ _ _ rfl rfl).mono ?_
  rintro e w_ ⟨rfl, rfl⟩
  go_wp2_with fail
  refine (alive02 _).mono ?_
  rintro e w9 ⟨rfl, h⟩
  have hB := bt_ hB h
  clear h
  go_wp2
  go_ret
  exact ⟨rfl, hB⟩
set_option maxRecDepth 100000 in
set_option maxHeartbeats 6400000 in
theorem PolyOvers_walk (w : World) (v : Value) (l : List F) (hv : Rb w v l) (x : F) :
   Calls Try.prog 11 #[v, .int .u8 (x.n : Int)] w fun e w' => e = .returned (.bool true) ∧ Below w.heap.size w w' := by
  have hB := Below.refl w.heap.size w
  obtain ⟨A, c, rfl, hc, hr⟩ := hv
  by_cases g1 : 60 < l.length
  · have t1 : (60 : Int) < (l.length : Int) := by omega
    go_enter Try.func11, Try.ntmps11
    go_wp2_with fail
    refine (alive02 _).mono ?_
    rintro e w9 ⟨rfl, h⟩
    have hB := bt_ hB h
    clear h
    go_wp2
    go_ret
    exact ⟨rfl, hB⟩
  have t1 : decide ((60 : Int) < (l.length : Int)) = false := decide_eq_false (by omega)
  have hv : Rb w (.slice A l.length c) l := ⟨A, c, rfl, hc, hr⟩
  have b1 : l.length ≤ 1000 := by omega
  have E1 := Lib.hid (F.over_back x l)
  have E2 : Hid ((F.qt x l).length = l.length - 1) := Lib.hid (F.qt_len x l)
  clear hc hr
  have E4 : Hid ((F.pmul (F.qt x l) [x, 1]).length ≤ 1000000) := Lib.hid (by
    by_cases e : F.qt x l = []
    · rw [e, F.pmul_nil_l]; exact Nat.zero_le _
    · rw [F.pmul_len e (by simp), E2.out]; simp; omega)
  have E5 : Hid ((F.padd (F.pmul (F.qt x l) [x, 1]) [F.ev x l]).length ≤ 1000000) := Lib.hid (by
    rw [F.padd_len]; have := E4.out; simp; omega)
  by_cases h0 : l = []
  · subst h0
    go_enter Try.func11, Try.ntmps11
    go_wp2_with fail
    refine (new_any _).mono ?_
    rintro e w1 ⟨rfl, hF, hB⟩
    have hv := hv.below hB
    go_wp2_with fail
    refine (pOver_c _ _ _ x _ hF hv (by decide)).mono ?_
    rintro e w2 ⟨z, rfl, hz, h⟩
    have hv := hv.below h
    have hB := bt_ hB h
    clear h
    obtain ⟨Z, zc, rfl, hzc, hzr⟩ := hz.rk
    have hz : Rb w2 (.slice Z (F.qt x _).length zc) (F.qt x _) := ⟨Z, zc, rfl, hzc, hzr⟩
    clear hzc hzr hF
    rw [E2.out] at hz ⊢
    go_wp2_with fail
    refine (rEval_c _ _ x _ hv).mono ?_
    rintro e w_ ⟨rfl, rfl⟩
    have hu := lit_b w2 [x, 1] #[.int .u8 (x.n : Int), .int .u8 1] 5 2 2 rfl rfl (by decide) (by decide)
    have hv := hv.alloc (.cells #[.int .u8 (x.n : Int), .int .u8 1] 5)
    have hz := hz.alloc (.cells #[.int .u8 (x.n : Int), .int .u8 1] 5)
    have hB := below_alloc hB (.cells #[.int .u8 (x.n : Int), .int .u8 1] 5)
    go_wp2_with fail
    refine (rMul2_c _ _ _ [x, 1] _ hz hu (by rw [E2.out]; decide) (by simp)).mono ?_
    rintro e w3 ⟨z1, rfl, hz1, h⟩
    have hv := hv.below h
    have hB := bt_ hB h
    clear h
    clear hz hu
    have hz1 := hz1.rk
    generalize hy : F.ev x _ = y at *
    have hu := lit_b w3 [y] #[.int .u8 (y.n : Int)] 5 1 1 rfl rfl (by decide) (by decide)
    have hv := hv.alloc (.cells #[.int .u8 (y.n : Int)] 5)
    have hz1 := hz1.alloc (.cells #[.int .u8 (y.n : Int)] 5)
    have hB := below_alloc hB (.cells #[.int .u8 (y.n : Int)] 5)
    go_wp2_with fail
    refine (rSum_c _ _ _ _ _ hz1 hu (by exact E4.out) (by simp)).mono ?_
    rintro e w4 ⟨z2, rfl, hz2, h⟩
    have hv := hv.below h
    have hB := bt_ hB h
    clear h
    clear hz1 hu
    obtain ⟨Z2, zc2, rfl, hzc2, hzr2⟩ := hz2.rk
    have hz2 : Rb w4 (.slice Z2 _ zc2) _ := ⟨Z2, zc2, rfl, hzc2, hzr2⟩
    clear hzc2 hzr2
    have E5 := E5.out
    generalize F.padd (F.pmul (F.qt x []) [x, 1]) [y] = L2 at *
    have hw4 := Lib.hid hB
    go_wp2_with fail
    go_loop [9] (fun i => ∃ k : Nat, k ≤ 0 + L2.length ∧ i = .int .i64 k) (fun i => 0 + L2.length - (intOf i).toNat)
    case atStart => exact ⟨0, by omega, rfl⟩
    case round =>
      obtain ⟨k, hk, rfl⟩ := hrel
      by_cases hlt : k < 0 + L2.length
      · obtain ⟨q, hq⟩ : ∃ q, F.at_ L2 k = q := ⟨_, rfl⟩
        have hq2 := Lib.hid (E1.out k ▸ hq)
        have hq := Lib.hid hq
        have hlt' : (k : Int) < ((0 : Nat) : Int) + (L2.length : Int) := by omega
        go_wp2_with fail
        refine (rAt_c _ L2 _ k q rfl (by omega) hq.out _ hz2).mono ?_
        rintro e w_ ⟨rfl, rfl⟩
        go_wp2_with fail
        refine (rAt_c _ [] _ k q rfl (by omega) hq2.out _ hv).mono ?_
        rintro e w_ ⟨rfl, rfl⟩
        go_wp2
        exact ⟨⟨k + 1, by omega, by go_num⟩, by simp [intOf]; try omega⟩
      · obtain rfl : k = 0 + L2.length := by omega
        go_wp2_with fail
        refine (alive02 _).mono ?_
        rintro e w9 ⟨rfl, h⟩
        have hB := bt_ hB h
        clear h
        go_wp2
        go_ret
        exact ⟨rfl, hB⟩
  · have h0' : 1 ≤ l.length := List.length_pos_iff.2 h0
    have t3 : ((l.length - 1 : Nat) : Int) = (l.length : Int) - 1 := by omega
    have t4 : (0 : Int) ≤ (l.length : Int) - 1 := by omega
    go_enter Try.func11, Try.ntmps11
    go_wp2_with fail
    refine (new_any _).mono ?_
    rintro e w1 ⟨rfl, hF, hB⟩
    have hv := hv.below hB
    go_wp2_with fail
    refine (pOver_c _ _ _ x _ hF hv (by omega)).mono ?_
    rintro e w2 ⟨z, rfl, hz, h⟩
    have hv := hv.below h
    have hB := bt_ hB h
    clear h
    obtain ⟨Z, zc, rfl, hzc, hzr⟩ := hz.rk
    have hz : Rb w2 (.slice Z (F.qt x _).length zc) (F.qt x _) := ⟨Z, zc, rfl, hzc, hzr⟩
    clear hzc hzr hF
    rw [E2.out] at hz ⊢
    go_wp2_with fail
    refine (rEval_c _ _ x _ hv).mono ?_
    rintro e w_ ⟨rfl, rfl⟩
    have hu := lit_b w2 [x, 1] #[.int .u8 (x.n : Int), .int .u8 1] 5 2 2 rfl rfl (by decide) (by decide)
    have hv := hv.alloc (.cells #[.int .u8 (x.n : Int), .int .u8 1] 5)
    have hz := hz.alloc (.cells #[.int .u8 (x.n : Int), .int .u8 1] 5)
    have hB := below_alloc hB (.cells #[.int .u8 (x.n : Int), .int .u8 1] 5)
    go_wp2_with fail
    refine (rMul2_c _ _ _ [x, 1] _ hz hu (by rw [E2.out]; omega) (by simp)).mono ?_
    rintro e w3 ⟨z1, rfl, hz1, h⟩
    have hv := hv.below h
    have hB := bt_ hB h
    clear h
    clear hz hu
    have hz1 := hz1.rk
    generalize hy : F.ev x _ = y at *
    have hu := lit_b w3 [y] #[.int .u8 (y.n : Int)] 5 1 1 rfl rfl (by decide) (by decide)
    have hv := hv.alloc (.cells #[.int .u8 (y.n : Int)] 5)
    have hz1 := hz1.alloc (.cells #[.int .u8 (y.n : Int)] 5)
    have hB := below_alloc hB (.cells #[.int .u8 (y.n : Int)] 5)
    go_wp2_with fail
    refine (rSum_c _ _ _ _ _ hz1 hu (by exact E4.out) (by simp)).mono ?_
    rintro e w4 ⟨z2, rfl, hz2, h⟩
    have hv := hv.below h
    have hB := bt_ hB h
    clear h
    clear hz1 hu
    obtain ⟨Z2, zc2, rfl, hzc2, hzr2⟩ := hz2.rk
    have hz2 : Rb w4 (.slice Z2 _ zc2) _ := ⟨Z2, zc2, rfl, hzc2, hzr2⟩
    clear hzc2 hzr2
    have E5 := E5.out
    generalize F.padd (F.pmul (F.qt x l) [x, 1]) [y] = L2 at *
    have hw4 := Lib.hid hB
    go_wp2_with fail
    go_loop [9] (fun i => ∃ k : Nat, k ≤ l.length + L2.length ∧ i = .int .i64 k) (fun i => l.length + L2.length - (intOf i).toNat)
    case atStart => exact ⟨0, by omega, rfl⟩
    case round =>
      obtain ⟨k, hk, rfl⟩ := hrel
      by_cases hlt : k < l.length + L2.length
      · obtain ⟨q, hq⟩ : ∃ q, F.at_ L2 k = q := ⟨_, rfl⟩
        have hq2 := Lib.hid (E1.out k ▸ hq)
        have hq := Lib.hid hq
        have hlt' : (k : Int) < ((l.length : Nat) : Int) + (L2.length : Int) := by omega
        go_wp2_with fail
        refine (rAt_c _ L2 _ k q rfl (by omega) hq.out _ hz2).mono ?_
        rintro e w_ ⟨rfl, rfl⟩
        go_wp2_with fail
        refine (rAt_c _ l _ k q rfl (by omega) hq2.out _ hv).mono ?_
        rintro e w_ ⟨rfl, rfl⟩
        go_wp2
        exact ⟨⟨k + 1, by omega, by go_num⟩, by simp [intOf]; try omega⟩
      · obtain rfl : k = l.length + L2.length := by omega
        go_wp2_with fail
        refine (alive02 _).mono ?_
        rintro e w9 ⟨rfl, h⟩
        have hB := bt_ hB h
        clear h
        go_wp2
        go_ret
        exact ⟨rfl, hB⟩
set_option maxRecDepth 100000 in
set_option maxHeartbeats 6400000 in
theorem PolyRoots_walk (w : World) (v : Value) (l : List F) (hv : Rb w v l) (x : F) :
   Calls Try.prog 12 #[v, .int .u8 (x.n : Int)] w fun e w' => e = .returned (.bool true) ∧ Below w.heap.size w w' := by
  have hB := Below.refl w.heap.size w
  obtain ⟨A, c, rfl, hc, hr⟩ := hv
  by_cases g1 : 30 < l.length
  · have t1 : (30 : Int) < (l.length : Int) := by omega
    go_enter Try.func12, Try.ntmps12
    go_wp2_with fail
    refine (alive02 _).mono ?_
    rintro e w9 ⟨rfl, h⟩
    have hB := bt_ hB h
    clear h
    go_wp2
    go_ret
    exact ⟨rfl, hB⟩
  have t1 : decide ((30 : Int) < (l.length : Int)) = false := decide_eq_false (by omega)
  have hv : Rb w (.slice A l.length c) l := ⟨A, c, rfl, hc, hr⟩
  have b1 : l.length ≤ 1000 := by omega
  go_enter Try.func12, Try.ntmps12
  go_wp2_with fail
  refine (new_any _).mono ?_
  rintro e w1 ⟨rfl, hF, hB⟩
  have hv := hv.below hB
  go_wp2_with fail
  refine (pRoot_c _ _ l _ hF hv (by omega)).mono ?_
  rintro e w2 ⟨z, rfl, hz, h⟩
  have hF := hF.below h
  have hv := hv.below h
  have hB := bt_ hB h
  clear h
  have hz := hz.rk
  have hE : Hid ((((F.ev x (F.rt l)).n : Int) == 0) = decide (x ∈ l)) := Lib.hid (by
    by_cases h : x ∈ l
    · rw [(n_eq0 ((F.ev_rt x l).2 h)).1, decide_eq_true h]
    · rw [(n_ne0 (fun e => h ((F.ev_rt x l).1 e))).1, decide_eq_false h])
  go_wp2_with fail
  go_loop [7, 22] (fun s i => ∃ (k : Nat) (b : Bool), k ≤ l.length ∧ i = .int .i64 k ∧ s = .bool b ∧ Hid (b = decide (x ∈ l.take k))) (fun _ i => l.length - (intOf i).toNat)
  case atStart => exact ⟨0, false, by omega, rfl, rfl, Lib.hid (by simp)⟩
  case round =>
    obtain ⟨k, b, hk, rfl, rfl, hb⟩ := hrel
    by_cases hlt : k < l.length
    · obtain ⟨ad, rfl, c1⟩ := kb_at (Kd.C_below hr hB) k hlt
      have hst := take_snoc' l k 0 hlt
      cases b
      · by_cases hcx : l.getD k 0 = x
        · have t2 : (((l.getD k 0).n : Int) == (x.n : Int)) = true := by rw [hcx]; simp
          have hi : Hid (true = decide (x ∈ l.take (k + 1))) := Lib.hid (decide_eq_true (by rw [hst, hcx]; exact List.mem_append.2 (.inr (List.mem_singleton_self _)))).symm
          generalize l.getD k 0 = a at *
          clear hcx hst
          go_wp2
          exact ⟨⟨k + 1, true, by omega, by go_num, rfl, hi⟩, by simp [intOf]; try omega⟩
        · have t2 : (((l.getD k 0).n : Int) == (x.n : Int)) = false := beq_eq_false_iff_ne.2 (fun e => hcx (F.n_inj (by omega)))
          have hi : Hid (false = decide (x ∈ l.take (k + 1))) := Lib.hid (by
            have := of_decide_eq_false hb.out.symm
            rw [hst]
            exact (decide_eq_false (fun h => (List.mem_append.1 h).elim this (fun h => hcx (List.mem_singleton.1 h).symm))).symm)
          generalize l.getD k 0 = a at *
          clear hcx hst
          go_wp2
          exact ⟨⟨k + 1, false, by omega, by go_num, rfl, hi⟩, by simp [intOf]; try omega⟩
      · have hi : Hid (true = decide (x ∈ l.take (k + 1))) := Lib.hid (by
          have := of_decide_eq_true hb.out.symm
          rw [hst]
          exact (decide_eq_true (by simp [this])).symm)
        generalize l.getD k 0 = a at *
        clear hst
        go_wp2
        exact ⟨⟨k + 1, true, by omega, by go_num, rfl, hi⟩, by simp [intOf]; try omega⟩
    · obtain rfl : k = l.length := by omega
      have hb := hb.out
      rw [List.take_length] at hb
      subst hb
      have hlen : (F.rt l).length ≤ 1000000 := by rw [F.rt_len]; omega
      have E3 : Hid (F.deg (F.rt l) = (l.length : Int)) := Lib.hid (F.deg_rt l)
      go_wp2_with fail
      refine (pOver_c _ _ _ x _ hF hz hlen).mono ?_
      rintro e w3 ⟨z1, rfl, _, h⟩
      have hv := hv.below h
      have hz := hz.below h
      have hF := hF.below h
      have hB := bt_ hB h
      clear h
      go_wp2_with fail
      refine (rRoot_c _ l _ hv (by omega)).mono ?_
      rintro e w4 ⟨z2, rfl, hz2, h⟩
      have hF := hF.below h
      have hz := hz.below h
      have hB := bt_ hB h
      clear h
      go_wp2_with fail
      refine (rSame_c _ _ _ _ _ hz hz2.rk).mono ?_
      rintro e w5 ⟨rfl, h⟩
      have hF := hF.below h.below
      have hz := hz.below h.below
      have hB := bd hB h
      clear h
      rw [decide_eq_true (rfl : F.rt l = F.rt l)]
      clear hz2
      go_wp2_with fail
      refine (pEval_c _ _ _ x _ hF hz).mono ?_
      rintro e w6 ⟨rfl, h⟩
      have hz := hz.below h.below
      have hB := bd hB h
      clear h
      have hE := hE.out
      generalize hy : (F.ev x (F.rt l)).n = y at *
      go_wp2_with fail
      refine (pDegree_c _ _ _ hz).mono ?_
      rintro e w_ ⟨rfl, rfl⟩
      rw [E3.out]
      go_wp2_with fail
      refine (alive02 _).mono ?_
      rintro e w9 ⟨rfl, h⟩
      have hB := bt_ hB h
      clear h
      go_wp2
      go_ret
      exact ⟨rfl, hB⟩
end Go.Proofs.Ytijeabhfddaoaaa
