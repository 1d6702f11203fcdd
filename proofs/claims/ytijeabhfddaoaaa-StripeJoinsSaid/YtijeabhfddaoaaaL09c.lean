/- The walks of the laws of layer 9: StripeJoins. -/
import Derived.Test.YtijeabhfddaoaaaL09
namespace Go.Proofs.Ytijeabhfddaoaaa
set_option linter.unusedVariables false
open Go.RowKit Go.Proofs.YtijeabhfddaoaaaW.PrintWords Go.Proofs.Sh

set_option maxRecDepth 100000 in
set_option maxHeartbeats 3200000 in
theorem stripeJoins_far (p : Pl) (v : Value) (l : List (List F)) (n : Int) (w : World) (hv : Rbb w v l) (hl : ¬ l.length ≤ 260) :
   Calls Try.prog 15 #[planV p, v, .int .i64 n] w fun e w' => e = .returned (.bool true) ∧ Below w.heap.size w w' := by
  have HP := Blk.new w (planC p) 33
  have hB := below_alloc (Below.refl w.heap.size w) (.cells (planC p) 33)
  replace hv := hv.below hB
  obtain ⟨A, c, rfl⟩ := rk_form hv
  have hl9 : l.length ≤ 9223372036854775807 := (rk_C hv).2.1
  have t0 : decide ((260 : Int) < (l.length : Int)) = true := decide_eq_true (by omega)
  go_enter Try.func15, Try.ntmps15
  go_wp2_with fail
  refine (alive09 _).mono ?_
  rintro e w9 ⟨rfl, h9⟩
  go_wp2
  go_ret
  exact ⟨rfl, bt_ hB h9⟩
set_option maxRecDepth 100000 in
set_option maxHeartbeats 3200000 in
theorem stripeJoins_no (p : Pl) (hi : p.In) (h : ¬ p.Ok) (v : Value) (l : List (List F)) (n : Int) (w : World) (hv : Rbb w v l) (hl : l.length ≤ 260) :
   Calls Try.prog 15 #[planV p, v, .int .i64 n] w fun e w' => e = .returned (.bool true) ∧ Below w.heap.size w w' := by
  have HP := Blk.new w (planC p) 33
  have hB := below_alloc (Below.refl w.heap.size w) (.cells (planC p) 33)
  replace hv := hv.below hB
  obtain ⟨A, c, rfl⟩ := rk_form hv
  have hl9 : l.length ≤ 9223372036854775807 := (rk_C hv).2.1
  have t0 : decide ((260 : Int) < (l.length : Int)) = false := decide_eq_false (by omega)
  go_enter Try.func15, Try.ntmps15
  go_wp2_with fail
  refine (sJoin_no p h _ l n _ hv).mono ?_
  rintro e w1 ⟨rfl, h1⟩
  (try clear c0 c1 c2 c3 c4 c5)
  replace HP := HP.below h1
  replace hB := bt_ hB h1
  replace hv := hv.below h1
  obtain ⟨c0, c1, c2, c3, c4, c5⟩ := cells6 HP
  go_wp2_with fail
  refine (rRight_no p hi h _).mono ?_
  rintro e w2 ⟨rfl, h2⟩
  (try clear c0 c1 c2 c3 c4 c5)
  replace HP := HP.below h2
  replace hB := bt_ hB h2
  replace hv := hv.below h2
  obtain ⟨c0, c1, c2, c3, c4, c5⟩ := cells6 HP
  go_wp2_with fail
  refine (alive09 _).mono ?_
  rintro e w9 ⟨rfl, h9⟩
  go_wp2
  go_ret
  exact ⟨rfl, bt_ hB h9⟩
set_option maxRecDepth 100000 in
set_option maxHeartbeats 3200000 in
theorem stripeJoins_two1 (p : Pl) (hi : p.In) (h : p.Ok) (v : Value) (l : List (List F)) (n : Int) (w : World) (hv : Rbb w v l) (hl : l.length ≤ 260) (hn : n < 0) :
   Calls Try.prog 15 #[planV p, v, .int .i64 n] w fun e w' => e = .returned (.bool true) ∧ Below w.heap.size w w' := by
  have HP := Blk.new w (planC p) 33
  have hB := below_alloc (Below.refl w.heap.size w) (.cells (planC p) 33)
  replace hv := hv.below hB
  obtain ⟨A, c, rfl⟩ := rk_form hv
  have hl9 : l.length ≤ 9223372036854775807 := (rk_C hv).2.1
  have t0 : decide ((260 : Int) < (l.length : Int)) = false := decide_eq_false (by omega)
  have hn2 : ¬ (0 ≤ n ∧ n ≤ 240) := by omega
  have t1 : decide (n < 0) = true := decide_eq_true (by omega)
  have t2 : decide (240 < n) = false := decide_eq_false (by omega)
  go_enter Try.func15, Try.ntmps15
  go_wp2_with fail
  refine (sJoin_two p h _ l n hn2 _ hv).mono ?_
  rintro e w1 ⟨rfl, h1⟩
  (try clear c0 c1 c2 c3 c4 c5)
  replace HP := HP.below h1
  replace hB := bt_ hB h1
  replace hv := hv.below h1
  obtain ⟨c0, c1, c2, c3, c4, c5⟩ := cells6 HP
  go_wp2_with fail
  refine (rRight_yes p h _).mono ?_
  rintro e w2 ⟨rfl, h2⟩
  (try clear c0 c1 c2 c3 c4 c5)
  replace HP := HP.below h2
  replace hB := bt_ hB h2
  replace hv := hv.below h2
  obtain ⟨c0, c1, c2, c3, c4, c5⟩ := cells6 HP
  go_wp2_with fail
  refine (alive09 _).mono ?_
  rintro e w9 ⟨rfl, h9⟩
  go_wp2
  go_ret
  exact ⟨rfl, bt_ hB h9⟩
set_option maxRecDepth 100000 in
set_option maxHeartbeats 3200000 in
theorem stripeJoins_two2 (p : Pl) (hi : p.In) (h : p.Ok) (v : Value) (l : List (List F)) (n : Int) (w : World) (hv : Rbb w v l) (hl : l.length ≤ 260) (hn : 240 < n) :
   Calls Try.prog 15 #[planV p, v, .int .i64 n] w fun e w' => e = .returned (.bool true) ∧ Below w.heap.size w w' := by
  have HP := Blk.new w (planC p) 33
  have hB := below_alloc (Below.refl w.heap.size w) (.cells (planC p) 33)
  replace hv := hv.below hB
  obtain ⟨A, c, rfl⟩ := rk_form hv
  have hl9 : l.length ≤ 9223372036854775807 := (rk_C hv).2.1
  have t0 : decide ((260 : Int) < (l.length : Int)) = false := decide_eq_false (by omega)
  have hn2 : ¬ (0 ≤ n ∧ n ≤ 240) := by omega
  have t1 : decide (n < 0) = false := decide_eq_false (by omega)
  have t2 : decide (240 < n) = true := decide_eq_true (by omega)
  go_enter Try.func15, Try.ntmps15
  go_wp2_with fail
  refine (sJoin_two p h _ l n hn2 _ hv).mono ?_
  rintro e w1 ⟨rfl, h1⟩
  (try clear c0 c1 c2 c3 c4 c5)
  replace HP := HP.below h1
  replace hB := bt_ hB h1
  replace hv := hv.below h1
  obtain ⟨c0, c1, c2, c3, c4, c5⟩ := cells6 HP
  go_wp2_with fail
  refine (rRight_yes p h _).mono ?_
  rintro e w2 ⟨rfl, h2⟩
  (try clear c0 c1 c2 c3 c4 c5)
  replace HP := HP.below h2
  replace hB := bt_ hB h2
  replace hv := hv.below h2
  obtain ⟨c0, c1, c2, c3, c4, c5⟩ := cells6 HP
  go_wp2_with fail
  refine (alive09 _).mono ?_
  rintro e w9 ⟨rfl, h9⟩
  go_wp2
  go_ret
  exact ⟨rfl, bt_ hB h9⟩
set_option maxRecDepth 100000 in
set_option maxHeartbeats 3200000 in
theorem stripeJoins_form (p : Pl) (hi : p.In) (h : p.Ok) (v : Value) (l : List (List F)) (n : Int) (w : World) (hv : Rbb w v l) (hl : l.length ≤ 260) (hn : 0 ≤ n ∧ n ≤ 240) (hf : ¬ fitsJ p l n) :
   Calls Try.prog 15 #[planV p, v, .int .i64 n] w fun e w' => e = .returned (.bool true) ∧ Below w.heap.size w w' := by
  have HP := Blk.new w (planC p) 33
  have hB := below_alloc (Below.refl w.heap.size w) (.cells (planC p) 33)
  replace hv := hv.below hB
  obtain ⟨A, c, rfl⟩ := rk_form hv
  have hl9 : l.length ≤ 9223372036854775807 := (rk_C hv).2.1
  have t0 : decide ((260 : Int) < (l.length : Int)) = false := decide_eq_false (by omega)
  have t1 : decide (n < 0) = false := decide_eq_false (by omega)
  have t2 : decide (240 < n) = false := decide_eq_false (by omega)
  have hlm : l.length ≤ 1000000 := by omega
  replace hf := Lib.hid hf
  go_enter Try.func15, Try.ntmps15
  go_wp2_with fail
  refine (sJoin_form p h _ l n hn _ hv hf.out).mono ?_
  rintro e w1 ⟨rfl, h1⟩
  (try clear c0 c1 c2 c3 c4 c5)
  replace HP := HP.below h1
  replace hB := bt_ hB h1
  replace hv := hv.below h1
  obtain ⟨c0, c1, c2, c3, c4, c5⟩ := cells6 HP
  go_wp2_with fail
  refine (rRight_yes p h _).mono ?_
  rintro e w2 ⟨rfl, h2⟩
  (try clear c0 c1 c2 c3 c4 c5)
  replace HP := HP.below h2
  replace hB := bt_ hB h2
  replace hv := hv.below h2
  obtain ⟨c0, c1, c2, c3, c4, c5⟩ := cells6 HP
  go_wp2_with fail
  refine (rFits_c p h _ l n hlm _ hv).mono ?_
  rintro e w3 ⟨rfl, h3⟩
  rw [decide_eq_false hf.out]
  (try clear c0 c1 c2 c3 c4 c5)
  replace HP := HP.below h3
  replace hB := bt_ hB h3
  replace hv := hv.below h3
  obtain ⟨c0, c1, c2, c3, c4, c5⟩ := cells6 HP
  go_wp2_with fail
  refine (alive09 _).mono ?_
  rintro e w9 ⟨rfl, h9⟩
  go_wp2
  go_ret
  exact ⟨rfl, bt_ hB h9⟩
set_option maxRecDepth 100000 in
set_option maxHeartbeats 3200000 in
theorem stripeJoins_ok (p : Pl) (hi : p.In) (h : p.Ok) (v : Value) (l : List (List F)) (n : Nat) (w : World) (hv : Rbb w v l) (hl : l.length ≤ 260) (hn : (n : Int) ≤ 240) (hf : fitsJ p l n) :
   Calls Try.prog 15 #[planV p, v, .int .i64 (n : Int)] w fun e w' => e = .returned (.bool true) ∧ Below w.heap.size w w' := by
  have HP := Blk.new w (planC p) 33
  have hB := below_alloc (Below.refl w.heap.size w) (.cells (planC p) 33)
  replace hv := hv.below hB
  obtain ⟨A, c, rfl⟩ := rk_form hv
  have hl9 : l.length ≤ 9223372036854775807 := (rk_C hv).2.1
  have t0 : decide ((260 : Int) < (l.length : Int)) = false := decide_eq_false (by omega)
  have t1 : decide ((n : Int) < 0) = false := decide_eq_false (by omega)
  have t2 : decide (240 < (n : Int)) = false := decide_eq_false (by omega)
  have hlm : l.length ≤ 1000000 := by omega
  have hn4 : n ≤ 240 := by omega
  replace hf := Lib.hid hf
  go_enter Try.func15, Try.ntmps15
  go_wp2_with fail
  refine (sJoin_ok p h _ l n hn _ hv hf.out).mono ?_
  rintro e w1 ⟨y, rfl, hY, h1⟩
  (try clear c0 c1 c2 c3 c4 c5)
  replace HP := HP.below h1
  replace hB := bt_ hB h1
  replace hv := hv.below h1
  obtain ⟨c0, c1, c2, c3, c4, c5⟩ := cells6 HP
  replace hY := hY.rk
  go_wp2_with fail
  refine (rRight_yes p h _).mono ?_
  rintro e w2 ⟨rfl, h2⟩
  (try clear c0 c1 c2 c3 c4 c5)
  replace HP := HP.below h2
  replace hB := bt_ hB h2
  replace hv := hv.below h2
  obtain ⟨c0, c1, c2, c3, c4, c5⟩ := cells6 HP
  replace hY := hY.below h2
  go_wp2_with fail
  refine (rFits_c p h _ l n hlm _ hv).mono ?_
  rintro e w3 ⟨rfl, h3⟩
  rw [decide_eq_true hf.out]
  (try clear c0 c1 c2 c3 c4 c5)
  replace HP := HP.below h3
  replace hB := bt_ hB h3
  replace hv := hv.below h3
  obtain ⟨c0, c1, c2, c3, c4, c5⟩ := cells6 HP
  replace hY := hY.below h3
  go_wp2_with fail
  refine (rJoin_c p h _ l n hn4 _ hv hf.out).mono ?_
  rintro e w4 ⟨x, rfl, hX, h4⟩
  (try clear c0 c1 c2 c3 c4 c5)
  replace HP := HP.below h4
  replace hB := bt_ hB h4
  replace hv := hv.below h4
  obtain ⟨c0, c1, c2, c3, c4, c5⟩ := cells6 HP
  replace hY := hY.below h4
  replace hX := hX.rk
  go_wp2_with fail
  refine (rSame_c y x _ _ _ hY hX).mono ?_
  rintro e w6 ⟨rfl, h6⟩
  rw [decide_eq_true rfl]
  replace h6 := h6.below
  (try clear c0 c1 c2 c3 c4 c5)
  replace HP := HP.below h6
  replace hB := bt_ hB h6
  replace hv := hv.below h6
  obtain ⟨c0, c1, c2, c3, c4, c5⟩ := cells6 HP
  go_wp2_with fail
  refine (alive09 _).mono ?_
  rintro e w9 ⟨rfl, h9⟩
  go_wp2
  go_ret
  exact ⟨rfl, bt_ hB h9⟩
theorem StripeJoins_walk (w : World) (N : Int) (hN : -9223372036854775808 ≤ N ∧ N ≤ 9223372036854775807) (T : Int) (hT : -9223372036854775808 ≤ T ∧ T ≤ 9223372036854775807) (L : Int) (hL : -9223372036854775808 ≤ L ∧ L ≤ 9223372036854775807) (W : Int) (hW : -9223372036854775808 ≤ W ∧ W ≤ 9223372036854775807) (S : Int) (hS : -9223372036854775808 ≤ S ∧ S ≤ 9223372036854775807) (R : Int) (hR : -9223372036854775808 ≤ R ∧ R ≤ 9223372036854775807) (v : Value) (l : List (List F)) (hv : Rbb w v l) (n : Int) (hn : -9223372036854775808 ≤ n ∧ n ≤ 9223372036854775807) :
   Calls Try.prog 15 #[.agg #[.int .i64 N, .int .i64 T, .int .i64 L, .int .i64 W, .int .i64 S, .int .i64 R], v, .int .i64 n] w fun e w' => e = .returned (.bool true) ∧ Below w.heap.size w w' := by
  have hi : Pl.In ⟨N, T, L, W, S, R⟩ := ⟨hN, hT, hL, hW, hS, hR⟩
  by_cases h1 : l.length ≤ 260
  · by_cases h : (Pl.mk N T L W S R).Ok
    · by_cases h2 : n < 0
      · exact stripeJoins_two1 ⟨N, T, L, W, S, R⟩ hi h v l n w hv h1 h2
      · by_cases h3 : 240 < n
        · exact stripeJoins_two2 ⟨N, T, L, W, S, R⟩ hi h v l n w hv h1 h3
        · by_cases h4 : fitsJ ⟨N, T, L, W, S, R⟩ l n
          · obtain ⟨m, rfl⟩ : ∃ m : Nat, n = (m : Int) := ⟨n.toNat, by omega⟩
            exact stripeJoins_ok ⟨N, T, L, W, S, R⟩ hi h v l m w hv h1 (by omega) h4
          · exact stripeJoins_form ⟨N, T, L, W, S, R⟩ hi h v l n w hv h1 ⟨by omega, by omega⟩ h4
    · exact stripeJoins_no ⟨N, T, L, W, S, R⟩ hi h v l n w hv h1
  · exact stripeJoins_far ⟨N, T, L, W, S, R⟩ v l n w hv h1
end Go.Proofs.Ytijeabhfddaoaaa
