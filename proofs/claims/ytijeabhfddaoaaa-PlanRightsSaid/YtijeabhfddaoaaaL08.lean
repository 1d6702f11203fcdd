/- The walks of the laws of layer 8. -/
import Derived.Test.YtijeabhfddaoaaaR08b
import Derived.Test.YtijeabhfddaoaaaR01
namespace Go.Proofs.Ytijeabhfddaoaaa
set_option linter.unusedVariables false
open Go.RowKit Go.Proofs.YtijeabhfddaoaaaW.PrintWords Go.Proofs.Sh

/-- A plan of four custodians. -/
def somePl : Pl := { N := 4, T := 1, L := 2, W := 3, S := 16, R := 3 }
theorem somePl_ok : somePl.Ok := ⟨by decide, by decide, by decide, by decide, by decide, by decide, by decide, by decide, by decide⟩
set_option maxHeartbeats 400000 in
theorem some_c (w : World) :
   Calls Try.prog 153 #[] w fun e w' => e = .returned (.agg #[.int .i64 4, .int .i64 1, .int .i64 2, .int .i64 3, .int .i64 16, .int .i64 3]) ∧ Below w.heap.size w w' := by
  go_enter Try.func153, Try.ntmps153
  go_wp2
  simp [bodyPost, results, Try.results153, go_sem]
  exact below_alloc (Below.refl _ _) _
theorem bu {w w' : World} (h : Below w.drew.heap.size w.drew w') : Below w.heap.size w w' := ⟨h.os, h.tape, h.output, h.size, h.block⟩
theorem buN {w w' : World} {n : Nat} (h : Below (w.drewN n).heap.size (w.drewN n) w') : Below w.heap.size w w' := ⟨h.os, h.tape, h.output, h.size, h.block⟩
theorem wrapI (x : Int) (h1 : -9223372036854775808 ≤ x) (h2 : x ≤ 9223372036854775807) : IntKind.i64.wrap x = x := by rw [IntKind.wrap_i64]; omega
theorem cells6 {w : World} {b : Nat} {t : TypeId} {x0 x1 x2 x3 x4 x5 : Value} (h : Blk w b #[x0, x1, x2, x3, x4, x5] t) :
    w.cell? ⟨b, 0, none⟩ = some x0 ∧ w.cell? ⟨b, 1, none⟩ = some x1 ∧ w.cell? ⟨b, 2, none⟩ = some x2 ∧ w.cell? ⟨b, 3, none⟩ = some x3 ∧ w.cell? ⟨b, 4, none⟩ = some x4 ∧ w.cell? ⟨b, 5, none⟩ = some x5 :=
  ⟨h.cell 0 _ rfl, h.cell 1 _ rfl, h.cell 2 _ rfl, h.cell 3 _ rfl, h.cell 4 _ rfl, h.cell 5 _ rfl⟩
set_option maxHeartbeats 1600000 in
theorem alive08 (w : World) :
   Calls Try.prog 49 #[] w fun e w' => e = .returned (.bool true) ∧ Below w.heap.size w w' := by
  have E1 : Hid (decide (secretsAt somePl = [F.of 4, F.of 5]) = true) := Lib.hid (by decide +kernel)
  go_enter Try.func49, Try.ntmps49
  go_wp2_with fail
  refine (some_c _).mono ?_
  rintro e w1 ⟨rfl, h1⟩
  go_wp2_with fail
  have HP := Blk.new w1 #[.int .i64 4, .int .i64 1, .int .i64 2, .int .i64 3, .int .i64 16, .int .i64 3] 33
  have hB := bt_ h1 (below_alloc (Below.refl _ _) (.cells #[.int .i64 4, .int .i64 1, .int .i64 2, .int .i64 3, .int .i64 16, .int .i64 3] 33))
  go_wp2_with fail
  refine (right_yes somePl somePl_ok _).mono ?_
  rintro e w2 ⟨rfl, h2⟩
  have HP := HP.below h2
  obtain ⟨c0, c1, c2, c3, c4, c5⟩ := cells6 HP
  go_wp2_with fail
  refine (need_yes somePl somePl_ok _).mono ?_
  rintro e w3 ⟨rfl, h3⟩
  rw [show somePl.T + somePl.L = 3 from rfl]
  have HP := HP.below h3
  obtain ⟨c0, c1, c2, c3, c4, c5⟩ := cells6 HP
  go_wp2_with fail
  refine (quorum_yes somePl somePl_ok _).mono ?_
  rintro e w4 ⟨rfl, h4⟩
  rw [show somePl.N - somePl.W + 1 = 2 from rfl]
  have HP := HP.below h4
  obtain ⟨c0, c1, c2, c3, c4, c5⟩ := cells6 HP
  go_wp2_with fail
  refine (dealers_yes somePl somePl_ok _).mono ?_
  rintro e w5 ⟨rfl, h5⟩
  rw [show somePl.T + 1 = 2 from rfl]
  have HP := HP.below h5
  obtain ⟨c0, c1, c2, c3, c4, c5⟩ := cells6 HP
  go_wp2_with fail
  refine (secrets_yes somePl somePl_ok _).mono ?_
  rintro e w6 ⟨v, rfl, ho, h6⟩
  have HP := HP.below h6
  obtain ⟨c0, c1, c2, c3, c4, c5⟩ := cells6 HP
  go_wp2_with fail
  refine (rSame_c _ _ (secretsAt somePl) [F.of 4, F.of 5] _ (ho.rk.alloc _) (lit_b _ _ _ _ _ _ rfl rfl (by decide) (by decide))).mono ?_
  rintro e w7 ⟨rfl, h7⟩
  rw [E1.out]
  have hb7 := bt_ (below_alloc (Below.refl _ _) _) h7.below
  have HP := HP.below hb7
  obtain ⟨c0, c1, c2, c3, c4, c5⟩ := cells6 HP
  go_wp2_with fail
  refine (stripes_yes somePl somePl_ok 5 _).mono ?_
  rintro e w8 ⟨rfl, h8⟩
  rw [show stripesOf somePl 5 = 3 from rfl]
  go_wp2
  go_ret
  exact ⟨rfl, bt_ (bt_ (bt_ (bt_ (bt_ (bt_ (bt_ hB h2) h3) h4) h5) h6) hb7) h8⟩

theorem lit3 (w : World) (i : Int) (t : TypeId) : Ri (w.alloc (.cells #[.int .i64 i, .int .i64 3, .int .i64 i] t)) (.slice (some ⟨w.heap.size, 0, none⟩) 3 3) [i, 3, i] := lit_i _ _ _ _ _ _ rfl rfl (by decide) (by decide)
set_option maxRecDepth 100000 in
set_option maxHeartbeats 6400000 in
theorem planRights_no (p : Pl) (hi : p.In) (h : ¬ p.Ok) (i n : Int) (w : World) :
   Calls Try.prog 9 #[planV p, .int .i64 i, .int .i64 n] w fun e w' => e = .returned (.bool true) ∧ Below w.heap.size w w' := by
  have HP := Blk.new w (planC p) 33
  have hB := below_alloc (Below.refl w.heap.size w) (.cells (planC p) 33)
  go_enter Try.func9, Try.ntmps9
  go_wp2_with fail
  refine (rRight_no p hi h _).mono ?_
  rintro e w1 ⟨rfl, h1⟩
  have HP := HP.below h1
  obtain ⟨c0, c1, c2, c3, c4, c5⟩ := cells6 HP
  go_wp2_with fail
  refine (right_no p h _).mono ?_
  rintro e w2 ⟨rfl, h2⟩
  have HP := HP.below h2
  obtain ⟨c0, c1, c2, c3, c4, c5⟩ := cells6 HP
  go_wp2_with fail
  refine (point_c i _).mono ?_
  rintro e w_ ⟨rfl, rfl⟩
  go_wp2_with fail
  refine (rPoint_c i _).mono ?_
  rintro e w_ ⟨rfl, rfl⟩
  go_wp2_with fail
  refine (points_c _ [i, 3, i] _ (lit3 _ _ _) (by simp)).mono ?_
  rintro e w3 ⟨v3, rfl, ho3, h3⟩
  have h3 := bt_ (below_alloc (Below.refl _ _) _) h3
  have HP := HP.below h3
  obtain ⟨c0, c1, c2, c3, c4, c5⟩ := cells6 HP
  go_wp2_with fail
  refine (rPoints_c _ [i, 3, i] _ (lit3 _ _ _) (by simp)).mono ?_
  rintro e w4 ⟨v4, rfl, ho4, h4⟩
  have h4 := bt_ (below_alloc (Below.refl _ _) _) h4
  have HP := HP.below h4
  obtain ⟨c0, c1, c2, c3, c4, c5⟩ := cells6 HP
  go_wp2_with fail
  refine (rSame_c _ _ _ _ _ (ho3.rk.below h4) ho4.rk).mono ?_
  rintro e w5 ⟨rfl, h5⟩
  have HP := HP.below h5.below
  obtain ⟨c0, c1, c2, c3, c4, c5⟩ := cells6 HP
  rw [decide_eq_true rfl]
  go_wp2
  have hB := bt_ (bt_ (bt_ (bt_ (bt_ hB h1) h2) h3) h4) h5.below
  have HF := Lib.hid h
  clear h1 h2 h3 h4 h5 ho3 ho4 h
  go_region_held3 (fun w' => w'.cell? ⟨w.heap.size, 0, none⟩ = some (.int .i64 p.N) ∧ w'.cell? ⟨w.heap.size, 1, none⟩ = some (.int .i64 p.T) ∧ w'.cell? ⟨w.heap.size, 2, none⟩ = some (.int .i64 p.L) ∧ w'.cell? ⟨w.heap.size, 3, none⟩ = some (.int .i64 p.W) ∧ w'.cell? ⟨w.heap.size, 4, none⟩ = some (.int .i64 p.S) ∧ w'.cell? ⟨w.heap.size, 5, none⟩ = some (.int .i64 p.R))
    (go_keep)
    (first
      | (go_at_call 55; refine (secrets_no p HF.out _).mono ?_; rintro e w6 ⟨rfl, h6⟩; (try replace h6 := bu h6); have HP := HP.below h6; obtain ⟨c0, c1, c2, c3, c4, c5⟩ := cells6 HP; have hB := bt_ hB h6)
      | (go_at_call 50; refine (all_no p HF.out _).mono ?_; rintro e w6 ⟨rfl, h6⟩; (try replace h6 := bu h6); have HP := HP.below h6; obtain ⟨c0, c1, c2, c3, c4, c5⟩ := cells6 HP; have hB := bt_ hB h6)
      | (go_at_call 62; refine (is_no p HF.out _ _).mono ?_; rintro e w6 ⟨rfl, h6⟩; (try replace h6 := bu h6); have HP := HP.below h6; obtain ⟨c0, c1, c2, c3, c4, c5⟩ := cells6 HP; have hB := bt_ hB h6)
      | (go_at_call 63; refine (need_no p HF.out _).mono ?_; rintro e w6 ⟨rfl, h6⟩; (try replace h6 := bu h6); have HP := HP.below h6; obtain ⟨c0, c1, c2, c3, c4, c5⟩ := cells6 HP; have hB := bt_ hB h6)
      | (go_at_call 51; refine (quorum_no p HF.out _).mono ?_; rintro e w6 ⟨rfl, h6⟩; (try replace h6 := bu h6); have HP := HP.below h6; obtain ⟨c0, c1, c2, c3, c4, c5⟩ := cells6 HP; have hB := bt_ hB h6)
      | (go_at_call 64; refine (dealers_no p HF.out _).mono ?_; rintro e w6 ⟨rfl, h6⟩; (try replace h6 := bu h6); have HP := HP.below h6; obtain ⟨c0, c1, c2, c3, c4, c5⟩ := cells6 HP; have hB := bt_ hB h6)
      | (go_at_call 65; refine (stripes_no p HF.out _ _).mono ?_; rintro e w6 ⟨rfl, h6⟩; (try replace h6 := bu h6); have HP := HP.below h6; obtain ⟨c0, c1, c2, c3, c4, c5⟩ := cells6 HP; have hB := bt_ hB h6)
      | (go_at_call 49; refine (alive08 _).mono ?_; rintro e w6 ⟨rfl, h6⟩; (try replace h6 := bu h6); have HP := HP.below h6; obtain ⟨c0, c1, c2, c3, c4, c5⟩ := cells6 HP; have hB := bt_ hB h6))
  go_wp2
  go_ret
  exact ⟨rfl, hB⟩
set_option maxRecDepth 100000 in
set_option maxHeartbeats 12800000 in
theorem planRights_yes (p : Pl) (h : p.Ok) (i n : Int) (w : World) :
   Calls Try.prog 9 #[planV p, .int .i64 i, .int .i64 n] w fun e w' => e = .returned (.bool true) ∧ Below w.heap.size w w' := by
  have HP := Blk.new w (planC p) 33
  have hB := below_alloc (Below.refl w.heap.size w) (.cells (planC p) 33)
  go_enter Try.func9, Try.ntmps9
  go_wp2_with fail
  refine (rRight_yes p h _).mono ?_
  rintro e w1 ⟨rfl, h1⟩
  have HP := HP.below h1
  obtain ⟨c0, c1, c2, c3, c4, c5⟩ := cells6 HP
  go_wp2_with fail
  refine (right_yes p h _).mono ?_
  rintro e w2 ⟨rfl, h2⟩
  have HP := HP.below h2
  obtain ⟨c0, c1, c2, c3, c4, c5⟩ := cells6 HP
  go_wp2_with fail
  refine (point_c i _).mono ?_
  rintro e w_ ⟨rfl, rfl⟩
  go_wp2_with fail
  refine (rPoint_c i _).mono ?_
  rintro e w_ ⟨rfl, rfl⟩
  go_wp2_with fail
  refine (points_c _ [i, 3, i] _ (lit3 _ _ _) (by simp)).mono ?_
  rintro e w3 ⟨v3, rfl, ho3, h3⟩
  have h3 := bt_ (below_alloc (Below.refl _ _) _) h3
  have HP := HP.below h3
  obtain ⟨c0, c1, c2, c3, c4, c5⟩ := cells6 HP
  go_wp2_with fail
  refine (rPoints_c _ [i, 3, i] _ (lit3 _ _ _) (by simp)).mono ?_
  rintro e w4 ⟨v4, rfl, ho4, h4⟩
  have h4 := bt_ (below_alloc (Below.refl _ _) _) h4
  have HP := HP.below h4
  obtain ⟨c0, c1, c2, c3, c4, c5⟩ := cells6 HP
  go_wp2_with fail
  refine (rSame_c _ _ _ _ _ (ho3.rk.below h4) ho4.rk).mono ?_
  rintro e w5 ⟨rfl, h5⟩
  have HP := HP.below h5.below
  obtain ⟨c0, c1, c2, c3, c4, c5⟩ := cells6 HP
  rw [decide_eq_true rfl]
  go_wp2
  have hB := bt_ (bt_ (bt_ (bt_ (bt_ hB h1) h2) h3) h4) h5.below
  have HF := Lib.hid h
  clear h1 h2 h3 h4 h5 ho3 ho4
  go_region_held3 (fun w' => w'.cell? ⟨w.heap.size, 0, none⟩ = some (.int .i64 p.N) ∧ w'.cell? ⟨w.heap.size, 1, none⟩ = some (.int .i64 p.T) ∧ w'.cell? ⟨w.heap.size, 2, none⟩ = some (.int .i64 p.L) ∧ w'.cell? ⟨w.heap.size, 3, none⟩ = some (.int .i64 p.W) ∧ w'.cell? ⟨w.heap.size, 4, none⟩ = some (.int .i64 p.S) ∧ w'.cell? ⟨w.heap.size, 5, none⟩ = some (.int .i64 p.R))
    (go_keep)
    (first
      | (go_at_call 55; refine (secrets_yes p HF.out _).mono ?_; rintro e w6 ⟨vA, rfl, sA, h6⟩; replace sA := sA.rk; (try replace h6 := bu h6); have HP := HP.below h6; obtain ⟨c0, c1, c2, c3, c4, c5⟩ := cells6 HP; have hB := bt_ hB h6)
      | (go_at_call 66; refine (rSecrets_c p HF.out _).mono ?_; rintro e w6 ⟨vB, rfl, sB, h6⟩; replace sB := sB.rk; replace sA := sA.below h6; (try replace h6 := bu h6); have HP := HP.below h6; obtain ⟨c0, c1, c2, c3, c4, c5⟩ := cells6 HP; have hB := bt_ hB h6)
      | (go_at_call 60; refine (rSame_c _ _ _ _ _ sA sB).mono ?_; rintro e w6 ⟨rfl, h6⟩; replace h6 := h6.below; (try replace h6 := bu h6); have HP := HP.below h6; obtain ⟨c0, c1, c2, c3, c4, c5⟩ := cells6 HP; have hB := bt_ hB h6)
      | (go_at_call 50; refine (all_yes p HF.out _).mono ?_; rintro e w6 ⟨vC, rfl, sC, h6⟩; replace sC := sC.rk; (try replace h6 := bu h6); have HP := HP.below h6; obtain ⟨c0, c1, c2, c3, c4, c5⟩ := cells6 HP; have hB := bt_ hB h6)
      | (go_at_call 68; refine (rAll_c p HF.out _).mono ?_; rintro e w6 ⟨vD, rfl, sD, h6⟩; replace sD := sD.rk; replace sC := sC.below h6; (try replace h6 := bu h6); have HP := HP.below h6; obtain ⟨c0, c1, c2, c3, c4, c5⟩ := cells6 HP; have hB := bt_ hB h6)
      | (go_at_call 67; refine (rSameI_c _ _ _ _ _ sC sD).mono ?_; rintro e w6 ⟨rfl, h6⟩; replace h6 := h6.below; (try replace h6 := bu h6); have HP := HP.below h6; obtain ⟨c0, c1, c2, c3, c4, c5⟩ := cells6 HP; have hB := bt_ hB h6)
      | (go_at_call 62; refine (is_yes p HF.out _ _).mono ?_; rintro e w6 ⟨rfl, h6⟩; (try replace h6 := bu h6); have HP := HP.below h6; obtain ⟨c0, c1, c2, c3, c4, c5⟩ := cells6 HP; have hB := bt_ hB h6)
      | (go_at_call 69; refine (rIs_c p _ _).mono ?_; rintro e w6 ⟨rfl, h6⟩; (try replace h6 := bu h6); have HP := HP.below h6; obtain ⟨c0, c1, c2, c3, c4, c5⟩ := cells6 HP; have hB := bt_ hB h6))
  go_wp2
  obtain ⟨a1, a2, a3, a4, a5, a6, a7, a8, a9⟩ := h
  have u1 : IntKind.i64.wrap (p.T + p.L) = p.T + p.L := wrapI _ (by omega) (by omega)
  have u2 : IntKind.i64.wrap (p.N - p.W) = p.N - p.W := wrapI _ (by omega) (by omega)
  have u3 : IntKind.i64.wrap (p.N - p.W + 1) = p.N - p.W + 1 := wrapI _ (by omega) (by omega)
  have u4 : IntKind.i64.wrap (p.T + 1) = p.T + 1 := wrapI _ (by omega) (by omega)
  go_region_held3 (fun w' => w'.cell? ⟨w.heap.size, 0, none⟩ = some (.int .i64 p.N) ∧ w'.cell? ⟨w.heap.size, 1, none⟩ = some (.int .i64 p.T) ∧ w'.cell? ⟨w.heap.size, 2, none⟩ = some (.int .i64 p.L) ∧ w'.cell? ⟨w.heap.size, 3, none⟩ = some (.int .i64 p.W) ∧ w'.cell? ⟨w.heap.size, 4, none⟩ = some (.int .i64 p.S) ∧ w'.cell? ⟨w.heap.size, 5, none⟩ = some (.int .i64 p.R))
    (go_keep)
    (first
      | (go_at_call 63; refine (need_yes p HF.out _).mono ?_; rintro e w6 ⟨rfl, h6⟩; (try replace h6 := bu h6); have HP := HP.below h6; obtain ⟨c0, c1, c2, c3, c4, c5⟩ := cells6 HP; have hB := bt_ hB h6)
      | (go_at_call 51; refine (quorum_yes p HF.out _).mono ?_; rintro e w6 ⟨rfl, h6⟩; (try replace h6 := bu h6); have HP := HP.below h6; obtain ⟨c0, c1, c2, c3, c4, c5⟩ := cells6 HP; have hB := bt_ hB h6)
      | (go_at_call 64; refine (dealers_yes p HF.out _).mono ?_; rintro e w6 ⟨rfl, h6⟩; (try replace h6 := bu h6); have HP := HP.below h6; obtain ⟨c0, c1, c2, c3, c4, c5⟩ := cells6 HP; have hB := bt_ hB h6)
      | (go_at_call 65; refine (stripes_yes p HF.out _ _).mono ?_; rintro e w6 ⟨rfl, h6⟩; (try replace h6 := bu h6); have HP := HP.below h6; obtain ⟨c0, c1, c2, c3, c4, c5⟩ := cells6 HP; have hB := bt_ hB h6)
      | (go_at_call 70; refine (rStripes_c p HF.out _ _).mono ?_; rintro e w6 ⟨rfl, h6⟩; (try replace h6 := bu h6); have HP := HP.below h6; obtain ⟨c0, c1, c2, c3, c4, c5⟩ := cells6 HP; have hB := bt_ hB h6)
      | (go_at_call 49; refine (alive08 _).mono ?_; rintro e w6 ⟨rfl, h6⟩; (try replace h6 := bu h6); have HP := HP.below h6; obtain ⟨c0, c1, c2, c3, c4, c5⟩ := cells6 HP; have hB := bt_ hB h6))
  go_wp2
  go_ret
  exact ⟨rfl, hB⟩
theorem PlanRights_walk (w : World) (N : Int) (hN : -9223372036854775808 ≤ N ∧ N ≤ 9223372036854775807) (T : Int) (hT : -9223372036854775808 ≤ T ∧ T ≤ 9223372036854775807) (L : Int) (hL : -9223372036854775808 ≤ L ∧ L ≤ 9223372036854775807) (W : Int) (hW : -9223372036854775808 ≤ W ∧ W ≤ 9223372036854775807) (S : Int) (hS : -9223372036854775808 ≤ S ∧ S ≤ 9223372036854775807) (R : Int) (hR : -9223372036854775808 ≤ R ∧ R ≤ 9223372036854775807)
   (i : Int) (_hi : -9223372036854775808 ≤ i ∧ i ≤ 9223372036854775807) (n : Int) (_hn : -9223372036854775808 ≤ n ∧ n ≤ 9223372036854775807) :
   Calls Try.prog 9 #[.agg #[.int .i64 N, .int .i64 T, .int .i64 L, .int .i64 W, .int .i64 S, .int .i64 R], .int .i64 i, .int .i64 n] w fun e w' => e = .returned (.bool true) ∧ Below w.heap.size w w' := by
  by_cases h : (Pl.mk N T L W S R).Ok
  · exact planRights_yes ⟨N, T, L, W, S, R⟩ h i n w
  · exact planRights_no ⟨N, T, L, W, S, R⟩ ⟨hN, hT, hL, hW, hS, hR⟩ h i n w
end Go.Proofs.Ytijeabhfddaoaaa
