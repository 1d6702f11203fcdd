/- The walks of the laws of layer 9: StripeCuts, StripeJoins. -/
import Derived.Test.YtijeabhfddaoaaaL09
namespace Go.Proofs.Ytijeabhfddaoaaa
set_option linter.unusedVariables false
open Go.RowKit Go.Proofs.YtijeabhfddaoaaaW.PrintWords Go.Proofs.Sh

set_option maxRecDepth 100000 in
set_option maxHeartbeats 3200000 in
theorem stripeCuts_far (p : Pl) (v : Value) (b : List F) (w : World) (hv : Rb w v b) (hl : ¬ b.length ≤ 300) :
   Calls Try.prog 14 #[planV p, v] w fun e w' => e = .returned (.bool true) ∧ Below w.heap.size w w' := by
  have HP := Blk.new w (planC p) 33
  have hB := below_alloc (Below.refl w.heap.size w) (.cells (planC p) 33)
  replace hv := hv.below hB
  obtain ⟨A, c, rfl⟩ := rk_form hv
  have hl9 := kb_len (rk_C hv)
  have t1 : decide ((300 : Int) < (b.length : Int)) = true := decide_eq_true (by omega)
  go_enter Try.func14, Try.ntmps14
  go_wp2_with fail
  refine (alive09 _).mono ?_
  rintro e w1 ⟨rfl, h1⟩
  go_wp2
  go_ret
  exact ⟨rfl, bt_ hB h1⟩
set_option maxRecDepth 100000 in
set_option maxHeartbeats 3200000 in
theorem stripeCuts_no (p : Pl) (hi : p.In) (h : ¬ p.Ok) (v : Value) (b : List F) (w : World) (hv : Rb w v b) (hl : b.length ≤ 300) :
   Calls Try.prog 14 #[planV p, v] w fun e w' => e = .returned (.bool true) ∧ Below w.heap.size w w' := by
  have HP := Blk.new w (planC p) 33
  have hB := below_alloc (Below.refl w.heap.size w) (.cells (planC p) 33)
  replace hv := hv.below hB
  obtain ⟨A, c, rfl⟩ := rk_form hv
  have hl9 := kb_len (rk_C hv)
  have t1 : decide ((300 : Int) < (b.length : Int)) = false := decide_eq_false (by omega)
  go_enter Try.func14, Try.ntmps14
  go_wp2_with fail
  refine (sCut_no p h _ _).mono ?_
  rintro e w1 ⟨rfl, h1⟩
  (try clear c0 c1 c2 c3 c4 c5)
  replace HP := HP.below h1
  replace hB := bt_ hB h1
  replace hv := hv.below h1
  obtain ⟨c0, c1, c2, c3, c4, c5⟩ := cells6 HP
  go_wp2_with fail
  refine (rRight_no p hi h _).mono ?_
  rintro e w2 ⟨rfl, h2⟩
  (try clear c0 c1 c2 c3 c4 c5)
  replace HP := HP.below h2
  replace hB := bt_ hB h2
  replace hv := hv.below h2
  obtain ⟨c0, c1, c2, c3, c4, c5⟩ := cells6 HP
  go_wp2_with fail
  refine (alive09 _).mono ?_
  rintro e w3 ⟨rfl, h3⟩
  go_wp2
  go_ret
  exact ⟨rfl, bt_ hB h3⟩
set_option maxRecDepth 100000 in
set_option maxHeartbeats 3200000 in
theorem stripeCuts_big (p : Pl) (hi : p.In) (h : p.Ok) (v : Value) (b : List F) (w : World) (hv : Rb w v b) (hl : b.length ≤ 300) (hl2 : ¬ b.length ≤ 240) :
   Calls Try.prog 14 #[planV p, v] w fun e w' => e = .returned (.bool true) ∧ Below w.heap.size w w' := by
  have HP := Blk.new w (planC p) 33
  have hB := below_alloc (Below.refl w.heap.size w) (.cells (planC p) 33)
  replace hv := hv.below hB
  obtain ⟨A, c, rfl⟩ := rk_form hv
  have hl9 := kb_len (rk_C hv)
  have t1 : decide ((300 : Int) < (b.length : Int)) = false := decide_eq_false (by omega)
  have t2 : decide ((240 : Int) < (b.length : Int)) = true := decide_eq_true (by omega)
  go_enter Try.func14, Try.ntmps14
  go_wp2_with fail
  refine (sCut_big p h _ b _ hv hl2).mono ?_
  rintro e w1 ⟨rfl, h1⟩
  (try clear c0 c1 c2 c3 c4 c5)
  replace HP := HP.below h1
  replace hB := bt_ hB h1
  replace hv := hv.below h1
  obtain ⟨c0, c1, c2, c3, c4, c5⟩ := cells6 HP
  go_wp2_with fail
  refine (rRight_yes p h _).mono ?_
  rintro e w2 ⟨rfl, h2⟩
  (try clear c0 c1 c2 c3 c4 c5)
  replace HP := HP.below h2
  replace hB := bt_ hB h2
  replace hv := hv.below h2
  obtain ⟨c0, c1, c2, c3, c4, c5⟩ := cells6 HP
  go_wp2_with fail
  refine (alive09 _).mono ?_
  rintro e w3 ⟨rfl, h3⟩
  go_wp2
  go_ret
  exact ⟨rfl, bt_ hB h3⟩
theorem fits_cut (p : Pl) (h : p.Ok) (b : List F) (hl : b.length ≤ 240) : fitsJ p (F.cutOf p.L.toNat b (F.nS p.L.toNat b.length)) b.length := by
  refine ⟨by rw [F.cutOf_len, stripes_nat h _ hl], ?_⟩
  rw [List.any_eq_false]
  intro r hr
  unfold F.cutOf at hr
  obtain ⟨k, _, rfl⟩ := List.mem_map.1 hr
  unfold bad3
  rw [F.rowOf_len]
  have := h.l
  simp
  omega
set_option maxRecDepth 100000 in
set_option maxHeartbeats 3200000 in
theorem stripeCuts_ok (p : Pl) (hi : p.In) (h : p.Ok) (v : Value) (b : List F) (w : World) (hv : Rb w v b) (hl2 : b.length ≤ 240) :
   Calls Try.prog 14 #[planV p, v] w fun e w' => e = .returned (.bool true) ∧ Below w.heap.size w w' := by
  have HP := Blk.new w (planC p) 33
  have hB := below_alloc (Below.refl w.heap.size w) (.cells (planC p) 33)
  replace hv := hv.below hB
  obtain ⟨A, c, rfl⟩ := rk_form hv
  have hl9 := kb_len (rk_C hv)
  have t1 : decide ((300 : Int) < (b.length : Int)) = false := decide_eq_false (by omega)
  have t2 : decide ((240 : Int) < (b.length : Int)) = false := decide_eq_false (by omega)
  have hfit := Lib.hid (fits_cut p h b hl2)
  have hjn := Lib.hid (F.join_cut p.L.toNat (by have := h.l; omega) b _ (F.nS_le p.L.toNat b.length (by have := h.l; omega)))
  have hn : (b.length : Int) ≤ 240 := by omega
  go_enter Try.func14, Try.ntmps14
  go_wp2_with fail
  refine (sCut_ok p h _ b _ hv hl2).mono ?_
  rintro e w1 ⟨z, rfl, hO, h1⟩
  (try clear c0 c1 c2 c3 c4 c5)
  replace HP := HP.below h1
  replace hB := bt_ hB h1
  replace hv := hv.below h1
  obtain ⟨c0, c1, c2, c3, c4, c5⟩ := cells6 HP
  replace hO := hO.rk
  go_wp2_with fail
  refine (rRight_yes p h _).mono ?_
  rintro e w2 ⟨rfl, h2⟩
  (try clear c0 c1 c2 c3 c4 c5)
  replace HP := HP.below h2
  replace hB := bt_ hB h2
  replace hv := hv.below h2
  obtain ⟨c0, c1, c2, c3, c4, c5⟩ := cells6 HP
  replace hO := hO.below h2
  go_wp2_with fail
  refine (sJoin_ok p h z _ b.length hn _ hO hfit.out).mono ?_
  rintro e w3 ⟨y, rfl, hY, h3⟩
  (try clear c0 c1 c2 c3 c4 c5)
  replace HP := HP.below h3
  replace hB := bt_ hB h3
  replace hv := hv.below h3
  obtain ⟨c0, c1, c2, c3, c4, c5⟩ := cells6 HP
  replace hO := hO.below h3
  rw [hjn.out] at hY
  replace hY := hY.rk
  go_wp2_with fail
  refine (rCut_c p h _ b _ hv hl2).mono ?_
  rintro e w4 ⟨x, rfl, hX, h4⟩
  (try clear c0 c1 c2 c3 c4 c5)
  replace HP := HP.below h4
  replace hB := bt_ hB h4
  replace hv := hv.below h4
  obtain ⟨c0, c1, c2, c3, c4, c5⟩ := cells6 HP
  replace hO := hO.below h4
  replace hY := hY.below h4
  replace hX := hX.rk
  go_wp2_with fail
  refine (rSameR_c z x _ _ _ hO hX).mono ?_
  rintro e w5 ⟨rfl, h5⟩
  rw [decide_eq_true rfl]
  replace h5 := h5.below
  (try clear c0 c1 c2 c3 c4 c5)
  replace HP := HP.below h5
  replace hB := bt_ hB h5
  replace hv := hv.below h5
  obtain ⟨c0, c1, c2, c3, c4, c5⟩ := cells6 HP
  replace hY := hY.below h5
  go_wp2_with fail
  refine (rSame_c y _ b b _ hY hv).mono ?_
  rintro e w6 ⟨rfl, h6⟩
  rw [decide_eq_true rfl]
  replace h6 := h6.below
  (try clear c0 c1 c2 c3 c4 c5)
  replace HP := HP.below h6
  replace hB := bt_ hB h6
  replace hv := hv.below h6
  obtain ⟨c0, c1, c2, c3, c4, c5⟩ := cells6 HP
  go_wp2_with fail
  refine (alive09 _).mono ?_
  rintro e w7 ⟨rfl, h7⟩
  go_wp2
  go_ret
  exact ⟨rfl, bt_ hB h7⟩
theorem StripeCuts_walk (w : World) (N : Int) (hN : -9223372036854775808 ≤ N ∧ N ≤ 9223372036854775807) (T : Int) (hT : -9223372036854775808 ≤ T ∧ T ≤ 9223372036854775807) (L : Int) (hL : -9223372036854775808 ≤ L ∧ L ≤ 9223372036854775807) (W : Int) (hW : -9223372036854775808 ≤ W ∧ W ≤ 9223372036854775807) (S : Int) (hS : -9223372036854775808 ≤ S ∧ S ≤ 9223372036854775807) (R : Int) (hR : -9223372036854775808 ≤ R ∧ R ≤ 9223372036854775807) (v : Value) (b : List F) (hv : Rb w v b) :
   Calls Try.prog 14 #[.agg #[.int .i64 N, .int .i64 T, .int .i64 L, .int .i64 W, .int .i64 S, .int .i64 R], v] w fun e w' => e = .returned (.bool true) ∧ Below w.heap.size w w' := by
  have hi : Pl.In ⟨N, T, L, W, S, R⟩ := ⟨hN, hT, hL, hW, hS, hR⟩
  by_cases h1 : b.length ≤ 300
  · by_cases h : (Pl.mk N T L W S R).Ok
    · by_cases h2 : b.length ≤ 240
      · exact stripeCuts_ok ⟨N, T, L, W, S, R⟩ hi h v b w hv h2
      · exact stripeCuts_big ⟨N, T, L, W, S, R⟩ hi h v b w hv h1 h2
    · exact stripeCuts_no ⟨N, T, L, W, S, R⟩ hi h v b w hv h1
  · exact stripeCuts_far ⟨N, T, L, W, S, R⟩ v b w hv h1
end Go.Proofs.Ytijeabhfddaoaaa
