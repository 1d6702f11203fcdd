/- The walks of the laws of layer 13 (blindings): the shares. -/
import Derived.Test.YtijeabhfddaoaaaR13
namespace Go.Proofs.Ytijeabhfddaoaaa
set_option linter.unusedVariables false
open Go.RowKit Go.Proofs.YtijeabhfddaoaaaW.PrintWords Go.Proofs.Sh

def threePl : Pl := { N := 3, T := 1, L := 1, W := 2, S := 9, R := 1 }
theorem threePl_ok : threePl.Ok := ⟨by decide, by decide, by decide, by decide, by decide, by decide, by decide, by decide, by decide⟩
set_option maxRecDepth 100000 in
set_option maxHeartbeats 3200000 in
theorem alive13 (w : World) :
   Calls Try.prog 94 #[] w fun e w' => e = .returned (.bool true) ∧ Below w.heap.size w w' := by
  have E1 : Hid (((allOf threePl).map point).map (bsh 1 (point 3) [F.of 5] 1) = [[F.of 10], [F.of 15], [F.of 0]]) := Lib.hid (by decide +kernel)
  have HP := Blk.new w #[.int .i64 3, .int .i64 1, .int .i64 1, .int .i64 2, .int .i64 9, .int .i64 1] 33
  have hB := below_alloc (Below.refl w.heap.size w) (.cells #[.int .i64 3, .int .i64 1, .int .i64 1, .int .i64 2, .int .i64 9, .int .i64 1] 33)
  go_enter Try.func94, Try.ntmps94
  go_wp2_with fail
  generalize w.alloc (.cells #[.int .i64 3, .int .i64 1, .int .i64 1, .int .i64 2, .int .i64 9, .int .i64 1] 33) = w1 at *
  obtain ⟨c0, c1, c2, c3, c4, c5⟩ := cells6 HP
  go_upto_region 2 with fail
  go_cut [2, 3] (fun s2 s3 wx => s3 = .int .i64 0 ∧ Obb w wx s2 [[F.of 10], [F.of 15], [F.of 0]] ∧ Blk wx w.heap.size #[.int .i64 3, .int .i64 1, .int .i64 1, .int .i64 2, .int .i64 9, .int .i64 1] 33 ∧ Below w.heap.size w wx)
  case first =>
    go_region_held3 (fun w' => w'.cell? ⟨w.heap.size, 0, none⟩ = some (.int .i64 3) ∧ w'.cell? ⟨w.heap.size, 1, none⟩ = some (.int .i64 1) ∧ w'.cell? ⟨w.heap.size, 2, none⟩ = some (.int .i64 1) ∧ w'.cell? ⟨w.heap.size, 3, none⟩ = some (.int .i64 2) ∧ w'.cell? ⟨w.heap.size, 4, none⟩ = some (.int .i64 9) ∧ w'.cell? ⟨w.heap.size, 5, none⟩ = some (.int .i64 1))
      (go_keep)
      (first
        | (go_at_call 38; refine (new_x _).mono ?_; rintro e w6 ⟨bF, rfl, hF, h6⟩; (first | have hT := (lit_b w1 [F.of 5] #[.int .u8 5] 5 1 1 rfl rfl (by decide) (by decide)).below h6 | have hT := (lit_b w1.drew [F.of 5] #[.int .u8 5] 5 1 1 rfl rfl (by decide) (by decide)).below h6 | skip); (repeat (first | replace h6 := ba h6 | replace h6 := buN h6 | replace h6 := bu h6)); have HP := HP.below h6; have hB := bt_ hB h6; obtain ⟨c0, c1, c2, c3, c4, c5⟩ := cells6 HP)
        | (go_at_call 95; refine (bBlind_ok _ threePl threePl_ok 1 3 (by decide) (by decide) 1 rfl _ [F.of 5] _ (by first | exact hF | exact hF.alloc _ | exact hF.drew) (by first | exact hT | exact lit_b _ [F.of 5] _ _ _ _ rfl rfl (by decide) (by decide)) (by decide)).mono ?_; rintro e w6 ⟨vZ, rfl, sZ, h6⟩; replace sZ := sZ.lower (w0 := w) (by first | exact hB | exact below_alloc hB _ | exact below_drew hB); (repeat (first | replace h6 := ba h6 | replace h6 := buN h6 | replace h6 := bu h6)); have HP := HP.below h6; have hB := bt_ hB h6; obtain ⟨c0, c1, c2, c3, c4, c5⟩ := cells6 HP)
        | fail)
    all_goals
      go_wp2_with fail
      go_meet
      rw [E1.out] at sZ
      exact ⟨rfl, sZ, HP, hB⟩
  case rest =>
    obtain ⟨rfl, hO, HP, hB⟩ := hcut
    clear c0 c1 c2 c3 c4 c5
    obtain ⟨A, c, rfl⟩ := rk_form hO.rk
    obtain ⟨ad, u0, rfl, d0, hu0⟩ := kbb_at (rk_C hO.rk) 0 (by decide)
    obtain ⟨ad1, u1, e1, d1, hu1⟩ := kbb_at (rk_C hO.rk) 1 (by decide)
    injection e1 with e1
    subst e1
    obtain ⟨ad1, u2, e1, d2, hu2⟩ := kbb_at (rk_C hO.rk) 2 (by decide)
    injection e1 with e1
    subst e1
    rw [add_0] at d0
    replace d1 : wc.cell? ⟨ad.block, ad.off + 1, none⟩ = some u1 := d1
    replace d2 : wc.cell? ⟨ad.block, ad.off + 2, none⟩ = some u2 := d2
    replace hu0 : Rb wc u0 [F.of 10] := hu0
    replace hu1 : Rb wc u1 [F.of 15] := hu1
    replace hu2 : Rb wc u2 [F.of 0] := hu2
    clear hO
    go_wp2_with fail
    refine (rSame_c _ _ [F.of 10] [F.of 10] _ (hu0.alloc _) (lit_b wc [F.of 10] #[.int .u8 10] 5 1 1 rfl rfl (by decide) (by decide))).mono ?_
    rintro e w7 ⟨rfl, h7⟩
    rw [decide_eq_true (rfl : [F.of 10] = [F.of 10])]
    have h7 := bt_ (below_alloc (Below.refl _ _) _) h7.below
    have d1 := pw_cell_below h7 d1
    have d2 := pw_cell_below h7 d2
    have hu1 := hu1.below h7
    have hu2 := hu2.below h7
    have HP := HP.below h7
    have hB := bt_ hB h7
    clear h7
    go_wp2_with fail
    refine (rSame_c _ _ [F.of 15] [F.of 15] _ (hu1.alloc _) (lit_b w7 [F.of 15] #[.int .u8 15] 5 1 1 rfl rfl (by decide) (by decide))).mono ?_
    rintro e w8 ⟨rfl, h7⟩
    rw [decide_eq_true (rfl : [F.of 15] = [F.of 15])]
    have h7 := bt_ (below_alloc (Below.refl _ _) _) h7.below
    have d1 := pw_cell_below h7 d1
    have d2 := pw_cell_below h7 d2
    have hu1 := hu1.below h7
    have hu2 := hu2.below h7
    have HP := HP.below h7
    have hB := bt_ hB h7
    clear h7
    go_wp2_with fail
    refine (rSame_c _ _ [F.of 0] [F.of 0] _ (hu2.alloc _) (lit_b w8 [F.of 0] #[.int .u8 0] 5 1 1 rfl rfl (by decide) (by decide))).mono ?_
    rintro e w9 ⟨rfl, h7⟩
    rw [decide_eq_true (rfl : [F.of 0] = [F.of 0])]
    have h7 := bt_ (below_alloc (Below.refl _ _) _) h7.below
    have d1 := pw_cell_below h7 d1
    have d2 := pw_cell_below h7 d2
    have hu1 := hu1.below h7
    have hu2 := hu2.below h7
    have HP := HP.below h7
    have hB := bt_ hB h7
    clear h7
    obtain ⟨c0, c1, c2, c3, c4, c5⟩ := cells6 HP
    go_wp2_with fail
    refine (bCost_ok threePl threePl_ok 4 (by decide) (by decide) _).mono ?_
    rintro e w10 ⟨rfl, h10⟩
    rw [show (threePl.T + threePl.L - 1) * 4 = 4 from rfl]
    go_wp2
    go_ret
    exact ⟨rfl, bt_ hB h10⟩
/-! ### BlindShares -/
theorem bsh_share (p : Pl) (T n : Nat) (own : F) (tape : List F) (x : F) : ((List.range n).map fun j => F.pmul [own, 1] (F.tp T tape j)).map (F.ev x) = bsh T own tape n x := by
  unfold bsh
  rw [List.map_map]
  refine List.map_congr_left fun j _ => ?_
  show F.ev x (F.pmul _ _) = _
  rw [F.ev_pmul, F.ev_lin, F.add_comm]
theorem bsh_own (T n : Nat) (own : F) (tape : List F) (k : Nat) : (bsh T own tape n own).getD k 0 = 0 := by
  unfold bsh
  by_cases h : k < n
  · simp [List.getD_eq_getElem?_getD, h, F.add_self, F.zero_mul]
  · simp [List.getD_eq_getElem?_getD, h]
theorem point_at13 (p : Pl) (k : Nat) (hk : k < ((allOf p).map point).length) : ((allOf p).map point).getD k 0 = point ((k : Int) + 1) := by
  rw [List.length_map, all_len] at hk
  simp [allOf, List.getD_eq_getElem?_getD, hk]
set_option maxRecDepth 100000 in
set_option maxHeartbeats 3200000 in
theorem blindShares_far (p : Pl) (n t : Int) (tv : Value) (tape : List F) (w : World) (ht : Rb w tv tape) (h : ¬ (Lite p ∧ tape.length ≤ 900)) :
   Calls Try.prog 16 #[planV p, .agg #[.int .i64 n, .int .i64 t], tv] w fun e w' => e = .returned (.bool true) ∧ Below w.heap.size w w' := by
  by_cases hL : Lite p
  · have hL2 := Lib.hid (decide_eq_true hL)
    have t1 : (900 : Int) < (tape.length : Int) := by
      have : ¬ tape.length ≤ 900 := fun e => h ⟨hL, e⟩
      omega
    clear h
    have HP := (Blk.new w (planC p) 33).alloc (.cells #[.int .i64 n, .int .i64 t] 77)
    have HQ := Blk.new' (w.alloc (.cells (planC p) 33)) #[.int .i64 n, .int .i64 t] 77 (World.size_alloc _ _)
    have hB := below_alloc (below_alloc (Below.refl w.heap.size w) (.cells (planC p) 33)) (.cells #[.int .i64 n, .int .i64 t] 77)
    have ht := ht.below hB
    obtain ⟨At, ct, rfl, hct, hct2⟩ := ht
    have ht : Rb _ (.slice At tape.length ct) tape := ⟨At, ct, rfl, hct, hct2⟩
    have hL := hL2
    go_enter Try.func16, Try.ntmps16
    go_wp2_with fail
    generalize (w.alloc (.cells (planC p) 33)).alloc (.cells #[.int .i64 n, .int .i64 t] 77) = w1 at *
    have q0 := HQ.cell 0 _ rfl
    have q1 := HQ.cell 1 _ rfl
    go_quiet (fail)
    have HP := HP.below (pw_below_drewN (Below.refl _ _) nq)
    have ht := ht.drewN nq
    have hB := pw_below_drewN hB nq
    clear q0 q1 HQ hct2
    generalize w1.drewN nq = w1' at *
    obtain ⟨c0, c1, c2, c3, c4, c5⟩ := cells6 HP
    go_wp2_with fail
    refine (light_c p _).mono ?_
    rintro e w2 ⟨rfl, h2⟩
    rw [hL.out]
    have HP := HP.below h2
    have ht := ht.below h2
    have hB := bt_ hB h2
    obtain ⟨c0, c1, c2, c3, c4, c5⟩ := cells6 HP
    clear h2
    go_wp2_with fail
    refine (alive13 _).mono ?_
    rintro e w9 ⟨rfl, h⟩
    have hB := bt_ hB h
    clear h
    go_wp2
    go_ret
    exact ⟨rfl, hB⟩
  · have hL := Lib.hid (decide_eq_false hL)
    clear h
    have HP := (Blk.new w (planC p) 33).alloc (.cells #[.int .i64 n, .int .i64 t] 77)
    have HQ := Blk.new' (w.alloc (.cells (planC p) 33)) #[.int .i64 n, .int .i64 t] 77 (World.size_alloc _ _)
    have hB := below_alloc (below_alloc (Below.refl w.heap.size w) (.cells (planC p) 33)) (.cells #[.int .i64 n, .int .i64 t] 77)
    have ht := ht.below hB
    obtain ⟨At, ct, rfl, hct, hct2⟩ := ht
    have ht : Rb _ (.slice At tape.length ct) tape := ⟨At, ct, rfl, hct, hct2⟩
    go_enter Try.func16, Try.ntmps16
    go_wp2_with fail
    generalize (w.alloc (.cells (planC p) 33)).alloc (.cells #[.int .i64 n, .int .i64 t] 77) = w1 at *
    have q0 := HQ.cell 0 _ rfl
    have q1 := HQ.cell 1 _ rfl
    go_quiet (fail)
    have HP := HP.below (pw_below_drewN (Below.refl _ _) nq)
    have ht := ht.drewN nq
    have hB := pw_below_drewN hB nq
    clear q0 q1 HQ hct2
    generalize w1.drewN nq = w1' at *
    obtain ⟨c0, c1, c2, c3, c4, c5⟩ := cells6 HP
    go_wp2_with fail
    refine (light_c p _).mono ?_
    rintro e w2 ⟨rfl, h2⟩
    rw [hL.out]
    have HP := HP.below h2
    have ht := ht.below h2
    have hB := bt_ hB h2
    obtain ⟨c0, c1, c2, c3, c4, c5⟩ := cells6 HP
    clear h2
    go_wp2_with fail
    refine (alive13 _).mono ?_
    rintro e w9 ⟨rfl, h⟩
    have hB := bt_ hB h
    clear h
    go_wp2
    go_ret
    exact ⟨rfl, hB⟩
set_option maxRecDepth 100000 in
set_option maxHeartbeats 3200000 in
theorem blindShares_no (p : Pl) (hi : p.In) (h : ¬ p.Ok) (n t : Int) (tv : Value) (tape : List F) (w : World) (ht : Rb w tv tape) (hL : Lite p) (hl : tape.length ≤ 900) :
   Calls Try.prog 16 #[planV p, .agg #[.int .i64 n, .int .i64 t], tv] w fun e w' => e = .returned (.bool true) ∧ Below w.heap.size w w' := by
  replace hL := Lib.hid (decide_eq_true hL)
  have t1 : decide ((900 : Int) < (tape.length : Int)) = false := decide_eq_false (by omega)
  have HP := (Blk.new w (planC p) 33).alloc (.cells #[.int .i64 n, .int .i64 t] 77)
  have HQ := Blk.new' (w.alloc (.cells (planC p) 33)) #[.int .i64 n, .int .i64 t] 77 (World.size_alloc _ _)
  have hB := below_alloc (below_alloc (Below.refl w.heap.size w) (.cells (planC p) 33)) (.cells #[.int .i64 n, .int .i64 t] 77)
  have ht := ht.below hB
  obtain ⟨At, ct, rfl, hct, hct2⟩ := ht
  have ht : Rb _ (.slice At tape.length ct) tape := ⟨At, ct, rfl, hct, hct2⟩
  go_enter Try.func16, Try.ntmps16
  go_wp2_with fail
  generalize (w.alloc (.cells (planC p) 33)).alloc (.cells #[.int .i64 n, .int .i64 t] 77) = w1 at *
  have q0 := HQ.cell 0 _ rfl
  have q1 := HQ.cell 1 _ rfl
  go_quiet (fail)
  have HP := HP.below (pw_below_drewN (Below.refl _ _) nq)
  have ht := ht.drewN nq
  have hB := pw_below_drewN hB nq
  clear q0 q1 HQ hct2
  generalize w1.drewN nq = w1' at *
  obtain ⟨c0, c1, c2, c3, c4, c5⟩ := cells6 HP
  go_wp2_with fail
  refine (light_c p _).mono ?_
  rintro e w2 ⟨rfl, h2⟩
  rw [hL.out]
  have HP := HP.below h2
  have ht := ht.below h2
  have hB := bt_ hB h2
  obtain ⟨c0, c1, c2, c3, c4, c5⟩ := cells6 HP
  clear h2
  go_upto_region 4 with fail
  go_cut [9, 10] (fun s7 s8 wx => (s7 = .slice none 0 0 ∧ s8 = .int .i64 1) ∧ Rb wx (.slice At tape.length ct) tape ∧ Blk wx w.heap.size (planC p) 33 ∧ Below w.heap.size w wx)
  case first =>
    go_region_held3 (fun w' => w'.cell? ⟨w.heap.size, 0, none⟩ = some (.int .i64 p.N) ∧ w'.cell? ⟨w.heap.size, 1, none⟩ = some (.int .i64 p.T) ∧ w'.cell? ⟨w.heap.size, 2, none⟩ = some (.int .i64 p.L) ∧ w'.cell? ⟨w.heap.size, 3, none⟩ = some (.int .i64 p.W) ∧ w'.cell? ⟨w.heap.size, 4, none⟩ = some (.int .i64 p.S) ∧ w'.cell? ⟨w.heap.size, 5, none⟩ = some (.int .i64 p.R))
      (go_keep)
      (first
        | (go_at_call 38; refine (new_x _).mono ?_; rintro e w6 ⟨bF, rfl, hF, h6⟩; (repeat (first | replace h6 := ba h6 | replace h6 := buN h6 | replace h6 := bu h6)); have HP := HP.below h6; have hB := bt_ hB h6; obtain ⟨c0, c1, c2, c3, c4, c5⟩ := cells6 HP; have ht := ht.below h6)
        | (go_at_call 95; refine (bBlind_no _ p h n t _ tape _ (by first | exact ht | exact ht.drew)).mono ?_; rintro e w6 ⟨rfl, h6⟩; skip; (repeat (first | replace h6 := ba h6 | replace h6 := buN h6 | replace h6 := bu h6)); have HP := HP.below h6; have hB := bt_ hB h6; obtain ⟨c0, c1, c2, c3, c4, c5⟩ := cells6 HP; have ht := ht.below h6)
        | fail)
    all_goals
      go_wp2_with fail
      go_meet
      exact ⟨⟨rfl, rfl⟩, ht, HP, hB⟩
  case rest =>
    clear c0 c1 c2 c3 c4 c5
    obtain ⟨⟨rfl, rfl⟩, ht, HP, hB⟩ := hcut
    obtain ⟨c0, c1, c2, c3, c4, c5⟩ := cells6 HP
    go_wp2_with fail
    refine (rCheck13_no p hi h n t _).mono ?_
    rintro e w6 ⟨rfl, h6⟩
    have hB := bt_ hB h6
    go_wp2_with fail
    refine (alive13 _).mono ?_
    rintro e w9 ⟨rfl, h⟩
    have hB := bt_ hB h
    clear h
    go_wp2
    go_ret
    exact ⟨rfl, hB⟩
set_option maxRecDepth 100000 in
set_option maxHeartbeats 3200000 in
theorem blindShares_two (p : Pl) (h : p.Ok) (n t : Int) (hn : ¬ ((0 ≤ n ∧ n ≤ 240) ∧ (1 ≤ t ∧ t ≤ p.N))) (tv : Value) (tape : List F) (w : World) (ht : Rb w tv tape) (hL : Lite p) (hl : tape.length ≤ 900) :
   Calls Try.prog 16 #[planV p, .agg #[.int .i64 n, .int .i64 t], tv] w fun e w' => e = .returned (.bool true) ∧ Below w.heap.size w w' := by
  replace hL := Lib.hid (decide_eq_true hL)
  replace hn := Lib.hid hn
  have t1 : decide ((900 : Int) < (tape.length : Int)) = false := decide_eq_false (by omega)
  have HP := (Blk.new w (planC p) 33).alloc (.cells #[.int .i64 n, .int .i64 t] 77)
  have HQ := Blk.new' (w.alloc (.cells (planC p) 33)) #[.int .i64 n, .int .i64 t] 77 (World.size_alloc _ _)
  have hB := below_alloc (below_alloc (Below.refl w.heap.size w) (.cells (planC p) 33)) (.cells #[.int .i64 n, .int .i64 t] 77)
  have ht := ht.below hB
  obtain ⟨At, ct, rfl, hct, hct2⟩ := ht
  have ht : Rb _ (.slice At tape.length ct) tape := ⟨At, ct, rfl, hct, hct2⟩
  go_enter Try.func16, Try.ntmps16
  go_wp2_with fail
  generalize (w.alloc (.cells (planC p) 33)).alloc (.cells #[.int .i64 n, .int .i64 t] 77) = w1 at *
  have q0 := HQ.cell 0 _ rfl
  have q1 := HQ.cell 1 _ rfl
  go_quiet (fail)
  have HP := HP.below (pw_below_drewN (Below.refl _ _) nq)
  have ht := ht.drewN nq
  have hB := pw_below_drewN hB nq
  clear q0 q1 HQ hct2
  generalize w1.drewN nq = w1' at *
  obtain ⟨c0, c1, c2, c3, c4, c5⟩ := cells6 HP
  go_wp2_with fail
  refine (light_c p _).mono ?_
  rintro e w2 ⟨rfl, h2⟩
  rw [hL.out]
  have HP := HP.below h2
  have ht := ht.below h2
  have hB := bt_ hB h2
  obtain ⟨c0, c1, c2, c3, c4, c5⟩ := cells6 HP
  clear h2
  go_upto_region 4 with fail
  go_cut [9, 10] (fun s7 s8 wx => (s7 = .slice none 0 0 ∧ s8 = .int .i64 2) ∧ Rb wx (.slice At tape.length ct) tape ∧ Blk wx w.heap.size (planC p) 33 ∧ Below w.heap.size w wx)
  case first =>
    go_region_held3 (fun w' => w'.cell? ⟨w.heap.size, 0, none⟩ = some (.int .i64 p.N) ∧ w'.cell? ⟨w.heap.size, 1, none⟩ = some (.int .i64 p.T) ∧ w'.cell? ⟨w.heap.size, 2, none⟩ = some (.int .i64 p.L) ∧ w'.cell? ⟨w.heap.size, 3, none⟩ = some (.int .i64 p.W) ∧ w'.cell? ⟨w.heap.size, 4, none⟩ = some (.int .i64 p.S) ∧ w'.cell? ⟨w.heap.size, 5, none⟩ = some (.int .i64 p.R))
      (go_keep)
      (first
        | (go_at_call 38; refine (new_x _).mono ?_; rintro e w6 ⟨bF, rfl, hF, h6⟩; (repeat (first | replace h6 := ba h6 | replace h6 := buN h6 | replace h6 := bu h6)); have HP := HP.below h6; have hB := bt_ hB h6; obtain ⟨c0, c1, c2, c3, c4, c5⟩ := cells6 HP; have ht := ht.below h6)
        | (go_at_call 95; refine (bBlind_two _ p h n t hn.out _ tape _ (by first | exact ht | exact ht.drew)).mono ?_; rintro e w6 ⟨rfl, h6⟩; skip; (repeat (first | replace h6 := ba h6 | replace h6 := buN h6 | replace h6 := bu h6)); have HP := HP.below h6; have hB := bt_ hB h6; obtain ⟨c0, c1, c2, c3, c4, c5⟩ := cells6 HP; have ht := ht.below h6)
        | fail)
    all_goals
      go_wp2_with fail
      go_meet
      exact ⟨⟨rfl, rfl⟩, ht, HP, hB⟩
  case rest =>
    clear c0 c1 c2 c3 c4 c5
    obtain ⟨⟨rfl, rfl⟩, ht, HP, hB⟩ := hcut
    obtain ⟨c0, c1, c2, c3, c4, c5⟩ := cells6 HP
    go_wp2_with fail
    refine (rCheck13_two p h n t hn.out _).mono ?_
    rintro e w6 ⟨rfl, h6⟩
    have hB := bt_ hB h6
    go_wp2_with fail
    refine (alive13 _).mono ?_
    rintro e w9 ⟨rfl, h⟩
    have hB := bt_ hB h
    clear h
    go_wp2
    go_ret
    exact ⟨rfl, hB⟩
set_option maxRecDepth 100000 in
set_option maxHeartbeats 3200000 in
theorem blindShares_short (p : Pl) (h : p.Ok) (n t : Int) (hn : (0 ≤ n ∧ n ≤ 240) ∧ (1 ≤ t ∧ t ≤ p.N)) (tv : Value) (tape : List F) (w : World) (ht : Rb w tv tape) (hL : Lite p) (hl : tape.length ≤ 900) (hs : (tape.length : Int) < (p.T + p.L - 1) * n) :
   Calls Try.prog 16 #[planV p, .agg #[.int .i64 n, .int .i64 t], tv] w fun e w' => e = .returned (.bool true) ∧ Below w.heap.size w w' := by
  replace hL := Lib.hid (decide_eq_true hL)
  replace hn := Lib.hid hn
  have t1 : decide ((900 : Int) < (tape.length : Int)) = false := decide_eq_false (by omega)
  have r12 := tl_range h
  have m0 : (p.T + p.L - 1) * n ≤ 256 * 240 := Int.mul_le_mul (by omega) hn.out.1.2 hn.out.1.1 (by omega)
  have m1 : 0 ≤ (p.T + p.L - 1) * n := Int.mul_nonneg (by omega) hn.out.1.1
  have m2 : IntKind.i64.wrap ((p.T + p.L - 1) * n) = (p.T + p.L - 1) * n := wrapI _ (by omega) (by omega)
  clear r12
  have hs2 := Lib.hid hs
  have HP := (Blk.new w (planC p) 33).alloc (.cells #[.int .i64 n, .int .i64 t] 77)
  have HQ := Blk.new' (w.alloc (.cells (planC p) 33)) #[.int .i64 n, .int .i64 t] 77 (World.size_alloc _ _)
  have hB := below_alloc (below_alloc (Below.refl w.heap.size w) (.cells (planC p) 33)) (.cells #[.int .i64 n, .int .i64 t] 77)
  have ht := ht.below hB
  obtain ⟨At, ct, rfl, hct, hct2⟩ := ht
  have ht : Rb _ (.slice At tape.length ct) tape := ⟨At, ct, rfl, hct, hct2⟩
  go_enter Try.func16, Try.ntmps16
  go_wp2_with fail
  generalize (w.alloc (.cells (planC p) 33)).alloc (.cells #[.int .i64 n, .int .i64 t] 77) = w1 at *
  have q0 := HQ.cell 0 _ rfl
  have q1 := HQ.cell 1 _ rfl
  go_quiet (fail)
  have HP := HP.below (pw_below_drewN (Below.refl _ _) nq)
  have ht := ht.drewN nq
  have hB := pw_below_drewN hB nq
  clear q0 q1 HQ hct2
  generalize w1.drewN nq = w1' at *
  obtain ⟨c0, c1, c2, c3, c4, c5⟩ := cells6 HP
  go_wp2_with fail
  refine (light_c p _).mono ?_
  rintro e w2 ⟨rfl, h2⟩
  rw [hL.out]
  have HP := HP.below h2
  have ht := ht.below h2
  have hB := bt_ hB h2
  obtain ⟨c0, c1, c2, c3, c4, c5⟩ := cells6 HP
  clear h2
  go_upto_region 4 with fail
  go_cut [9, 10] (fun s7 s8 wx => (s7 = .slice none 0 0 ∧ s8 = .int .i64 12) ∧ Rb wx (.slice At tape.length ct) tape ∧ Blk wx w.heap.size (planC p) 33 ∧ Below w.heap.size w wx)
  case first =>
    go_region_held3 (fun w' => w'.cell? ⟨w.heap.size, 0, none⟩ = some (.int .i64 p.N) ∧ w'.cell? ⟨w.heap.size, 1, none⟩ = some (.int .i64 p.T) ∧ w'.cell? ⟨w.heap.size, 2, none⟩ = some (.int .i64 p.L) ∧ w'.cell? ⟨w.heap.size, 3, none⟩ = some (.int .i64 p.W) ∧ w'.cell? ⟨w.heap.size, 4, none⟩ = some (.int .i64 p.S) ∧ w'.cell? ⟨w.heap.size, 5, none⟩ = some (.int .i64 p.R))
      (go_keep)
      (first
        | (go_at_call 38; refine (new_x _).mono ?_; rintro e w6 ⟨bF, rfl, hF, h6⟩; (repeat (first | replace h6 := ba h6 | replace h6 := buN h6 | replace h6 := bu h6)); have HP := HP.below h6; have hB := bt_ hB h6; obtain ⟨c0, c1, c2, c3, c4, c5⟩ := cells6 HP; have ht := ht.below h6)
        | (go_at_call 95; refine (bBlind_short _ p h n t hn.out _ tape _ (by first | exact ht | exact ht.drew) hs2.out).mono ?_; rintro e w6 ⟨rfl, h6⟩; skip; (repeat (first | replace h6 := ba h6 | replace h6 := buN h6 | replace h6 := bu h6)); have HP := HP.below h6; have hB := bt_ hB h6; obtain ⟨c0, c1, c2, c3, c4, c5⟩ := cells6 HP; have ht := ht.below h6)
        | fail)
    all_goals
      go_wp2_with fail
      go_meet
      exact ⟨⟨rfl, rfl⟩, ht, HP, hB⟩
  case rest =>
    clear c0 c1 c2 c3 c4 c5
    obtain ⟨⟨rfl, rfl⟩, ht, HP, hB⟩ := hcut
    obtain ⟨c0, c1, c2, c3, c4, c5⟩ := cells6 HP
    go_wp2_with fail
    refine (rCheck13_ok p h n t hn.out _).mono ?_
    rintro e w6 ⟨rfl, h6⟩
    have HP := HP.below h6
    have hB := bt_ hB h6
    obtain ⟨c0, c1, c2, c3, c4, c5⟩ := cells6 HP
    go_wp2_with fail
    refine (rWidth13_c p h _).mono ?_
    rintro e w7 ⟨rfl, h7⟩
    have hB := bt_ hB h7
    go_wp2_with fail
    refine (alive13 _).mono ?_
    rintro e w9 ⟨rfl, h⟩
    have hB := bt_ hB h
    clear h
    go_wp2
    go_ret
    exact ⟨rfl, hB⟩
set_option maxRecDepth 100000 in
set_option maxHeartbeats 6400000 in
theorem blindShares_ok (p : Pl) (h : p.Ok) (n : Nat) (t : Int) (hn2 : (n : Int) ≤ 240) (hn3 : 1 ≤ t ∧ t ≤ p.N) (tv : Value) (tape : List F) (w : World) (ht : Rb w tv tape) (hL : Lite p) (hl : tape.length ≤ 900) (hs : (p.T + p.L - 1) * n ≤ (tape.length : Int)) :
   Calls Try.prog 16 #[planV p, .agg #[.int .i64 n, .int .i64 t], tv] w fun e w' => e = .returned (.bool true) ∧ Below w.heap.size w w' := by
  have hN := Lib.hid hL.1
  have hn : Hid ((0 ≤ (n : Int) ∧ (n : Int) ≤ 240) ∧ (1 ≤ t ∧ t ≤ p.N)) := Lib.hid ⟨⟨by omega, hn2⟩, hn3⟩
  replace hL := Lib.hid (decide_eq_true hL)
  have t1 : decide ((900 : Int) < (tape.length : Int)) = false := decide_eq_false (by omega)
  obtain ⟨W, eW⟩ : ∃ W : Nat, p.T + p.L - 1 = W := ⟨(p.T + p.L - 1).toNat, by have := tl_range h; omega⟩
  have hs2 : Hid (p.T + p.L - 1 = W ∧ W * n ≤ tape.length) := Lib.hid ⟨eW, by rw [eW, ← Int.natCast_mul] at hs; omega⟩
  have r12 := tl_range h
  have m0 : (p.T + p.L - 1) * n ≤ 256 * 240 := Int.mul_le_mul (by omega) hn.out.1.2 hn.out.1.1 (by omega)
  have m1 : 0 ≤ (p.T + p.L - 1) * n := Int.mul_nonneg (by omega) hn.out.1.1
  have m2 : IntKind.i64.wrap ((p.T + p.L - 1) * n) = (p.T + p.L - 1) * n := wrapI _ (by omega) (by omega)
  clear r12
  have t4 : decide ((tape.length : Int) < (p.T + p.L - 1) * n) = false := decide_eq_false (by omega)
  have hnp : 0 ≤ p.N := by omega
  clear eW hs
  replace hn3 := Lib.hid hn3
  have HP := (Blk.new w (planC p) 33).alloc (.cells #[.int .i64 n, .int .i64 t] 77)
  have HQ := Blk.new' (w.alloc (.cells (planC p) 33)) #[.int .i64 n, .int .i64 t] 77 (World.size_alloc _ _)
  have hB := below_alloc (below_alloc (Below.refl w.heap.size w) (.cells (planC p) 33)) (.cells #[.int .i64 n, .int .i64 t] 77)
  have ht := ht.below hB
  obtain ⟨At, ct, rfl, hct, hct2⟩ := ht
  have ht : Rb _ (.slice At tape.length ct) tape := ⟨At, ct, rfl, hct, hct2⟩
  go_enter Try.func16, Try.ntmps16
  go_wp2_with fail
  generalize (w.alloc (.cells (planC p) 33)).alloc (.cells #[.int .i64 n, .int .i64 t] 77) = w1 at *
  have q0 := HQ.cell 0 _ rfl
  have q1 := HQ.cell 1 _ rfl
  go_quiet (fail)
  have HP := HP.below (pw_below_drewN (Below.refl _ _) nq)
  have ht := ht.drewN nq
  have hB := pw_below_drewN hB nq
  clear q0 q1 HQ hct2
  generalize w1.drewN nq = w1' at *
  obtain ⟨c0, c1, c2, c3, c4, c5⟩ := cells6 HP
  go_wp2_with fail
  refine (light_c p _).mono ?_
  rintro e w2 ⟨rfl, h2⟩
  rw [hL.out]
  have HP := HP.below h2
  have ht := ht.below h2
  have hB := bt_ hB h2
  obtain ⟨c0, c1, c2, c3, c4, c5⟩ := cells6 HP
  clear h2
  go_upto_region 4 with fail
  go_cut [9, 10] (fun s7 s8 wx => (Obb w wx s7 (((allOf p).map point).map (bsh W (point t) tape n)) ∧ s8 = .int .i64 0) ∧ Rb wx (.slice At tape.length ct) tape ∧ Blk wx w.heap.size (planC p) 33 ∧ Below w.heap.size w wx)
  case first =>
    go_region_held3 (fun w' => w'.cell? ⟨w.heap.size, 0, none⟩ = some (.int .i64 p.N) ∧ w'.cell? ⟨w.heap.size, 1, none⟩ = some (.int .i64 p.T) ∧ w'.cell? ⟨w.heap.size, 2, none⟩ = some (.int .i64 p.L) ∧ w'.cell? ⟨w.heap.size, 3, none⟩ = some (.int .i64 p.W) ∧ w'.cell? ⟨w.heap.size, 4, none⟩ = some (.int .i64 p.S) ∧ w'.cell? ⟨w.heap.size, 5, none⟩ = some (.int .i64 p.R))
      (go_keep)
      (first
        | (go_at_call 38; refine (new_x _).mono ?_; rintro e w6 ⟨bF, rfl, hF, h6⟩; (repeat (first | replace h6 := ba h6 | replace h6 := buN h6 | replace h6 := bu h6)); have HP := HP.below h6; have hB := bt_ hB h6; obtain ⟨c0, c1, c2, c3, c4, c5⟩ := cells6 HP; have ht := ht.below h6)
        | (go_at_call 95; refine (bBlind_ok _ p h n t hn2 hn3.out W hs2.out.1 _ tape _ (by first | exact hF | exact hF.drew) (by first | exact ht | exact ht.drew) hs2.out.2).mono ?_; rintro e w6 ⟨vZ, rfl, sZ, h6⟩; replace sZ := sZ.lower (w0 := w) (by first | exact hB | exact below_drew hB); (repeat (first | replace h6 := ba h6 | replace h6 := buN h6 | replace h6 := bu h6)); have HP := HP.below h6; have hB := bt_ hB h6; obtain ⟨c0, c1, c2, c3, c4, c5⟩ := cells6 HP; have ht := ht.below h6)
        | fail)
    all_goals
      go_wp2_with fail
      go_meet
      exact ⟨⟨sZ, rfl⟩, ht, HP, hB⟩
  case rest =>
    clear c0 c1 c2 c3 c4 c5
    obtain ⟨⟨hO, rfl⟩, ht, HP, hB⟩ := hcut
    obtain ⟨c0, c1, c2, c3, c4, c5⟩ := cells6 HP
    go_wp2_with fail
    refine (rCheck13_ok p h n t hn.out _).mono ?_
    rintro e w6 ⟨rfl, h6⟩
    have HP := HP.below h6
    have hB := bt_ hB h6
    have ht := ht.below h6
    have hO := hO.rk.below h6
    obtain ⟨c0, c1, c2, c3, c4, c5⟩ := cells6 HP
    clear h6
    go_wp2_with fail
    refine (rWidth13_c p h _).mono ?_
    rintro e w7 ⟨rfl, h7⟩
    have HP := HP.below h7
    have hB := bt_ hB h7
    have ht := ht.below h7
    have hO := hO.below h7
    obtain ⟨c0, c1, c2, c3, c4, c5⟩ := cells6 HP
    clear h7
    obtain ⟨N, eN⟩ : ∃ N : Nat, p.N = N := ⟨p.N.toNat, by omega⟩
    have hlen : Hid ((((allOf p).map point).map (bsh W (point t) tape n)).length = N) := Lib.hid (by rw [List.length_map, List.length_map, all_len]; omega)
    have t5 : ((N : Int) != p.N) = false := by rw [eN]; simp
    replace eN := Lib.hid eN
    obtain ⟨A8, c8, rfl⟩ := rk_form hO
    rw [hlen.out] at hO ⊢
    go_wp2_with fail
    go_region_held3 (fun w' => w'.cell? ⟨w.heap.size, 0, none⟩ = some (.int .i64 p.N) ∧ w'.cell? ⟨w.heap.size, 1, none⟩ = some (.int .i64 p.T) ∧ w'.cell? ⟨w.heap.size, 2, none⟩ = some (.int .i64 p.L) ∧ w'.cell? ⟨w.heap.size, 3, none⟩ = some (.int .i64 p.W) ∧ w'.cell? ⟨w.heap.size, 4, none⟩ = some (.int .i64 p.S) ∧ w'.cell? ⟨w.heap.size, 5, none⟩ = some (.int .i64 p.R))
      (go_keep)
      (first
        | (go_at_call 98; refine (bCost_ok p h n hn.out.1.1 hn.out.1.2 _).mono ?_; rintro e w6 ⟨rfl, h6⟩; (repeat (first | replace h6 := ba h6 | replace h6 := buN h6 | replace h6 := bu h6)); have HP := HP.below h6; have hB := bt_ hB h6; obtain ⟨c0, c1, c2, c3, c4, c5⟩ := cells6 HP; have ht := ht.below h6; have hO := hO.below h6)
        | (go_at_call 97; refine (rWidth13_c p h _).mono ?_; rintro e w6 ⟨rfl, h6⟩; (repeat (first | replace h6 := ba h6 | replace h6 := buN h6 | replace h6 := bu h6)); have HP := HP.below h6; have hB := bt_ hB h6; obtain ⟨c0, c1, c2, c3, c4, c5⟩ := cells6 HP; have ht := ht.below h6; have hO := hO.below h6)
        | fail)
    have hB := Lib.hid hB
    go_wp2_with fail
    refine (rPolys13_c p h n W t hs2.out.1 (by omega) _ tape _ ht hs2.out.2).mono ?_
    rintro e w7 ⟨z, rfl, sz, h7⟩
    have hO := hO.below h7
    have hB := bt_ hB.out h7
    have sz := sz.rk
    clear h7 ht HP c0 c1 c2 c3 c4 c5
    go_wp2_with fail
    go_loopw [13, 92] (fun _ i wr => ∃ k : Nat, k ≤ N ∧ i = .int .i64 k ∧ Below w7.heap.size w7 wr ∧ Below w.heap.size w wr) (fun _ i _ => N - (intOf i).toNat)
    case atStart => exact ⟨0, by omega, rfl, Below.refl _ _, hB⟩
    case round =>
      clear hB
      obtain ⟨k, hk, rfl, hB7, hB⟩ := hrel
      by_cases hlt : k < N
      · obtain ⟨ad, u, rfl, d0, hu⟩ := kbb_at (rk_C hO) k (by rw [hlen.out]; exact hlt)
        have d0 := pw_cell_below hB7 d0
        have hu := hu.below hB7
        have sz := sz.below hB7
        have n3 : IntKind.i64.wrap ((k : Int) + 1) = k + 1 := wrapI _ (by omega) (by have := hN.out; have := eN.out; omega)
        have hrow : Hid ((((allOf p).map point).map (bsh W (point t) tape n)).getD k [] = ((List.range n).map fun j => F.pmul [point t, 1] (F.tp W tape j)).map (F.ev (point ((k : Int) + 1)))) := Lib.hid (by
          have h1 := hlen.out
          rw [List.length_map] at h1
          rw [bsh_share p, ← point_at13 p k (by omega)]
          simp [List.getD_eq_getElem?_getD, show k < (allOf p).length by rw [List.length_map] at h1; omega])
        have hpl : Hid (((List.range n).map fun j => F.pmul [point t, 1] (F.tp W tape j)).length ≤ 1000000) := Lib.hid (by rw [List.length_map, List.length_range]; omega)
        rw [hrow.out] at hu
        generalize ((List.range n).map fun j => F.pmul [point t, 1] (F.tp W tape j)) = ps at *
        go_wp2_with fail
        go_region_held3 (fun w' => w'.cell? (ad.add k) = some u)
          (go_keep)
          (first
            | (go_at_call 100; refine (rShare_c _ ps ((k : Int) + 1) _ (by first | exact sz | exact sz.drew) hpl.out).mono ?_; rintro e w6 ⟨vS, rfl, sS, h6⟩; replace sS := sS.rk; (repeat (first | replace h6 := buN h6 | replace h6 := bu h6)); have d0 := pw_cell_below h6 d0; have hu := hu.below h6; have hB7 := bt_ hB7 h6; have hB := bt_ hB h6)
            | (go_at_call 60; refine (rSame_c _ _ _ _ _ (by first | exact hu | exact hu.drew) (by first | exact sS | exact sS.drew)).mono ?_; rintro e w6 ⟨rfl, h6⟩; replace h6 := h6.below; (repeat (first | replace h6 := buN h6 | replace h6 := bu h6)); have d0 := pw_cell_below h6 d0; have hB7 := bt_ hB7 h6; have hB := bt_ hB h6)
            | fail)
        go_wp2
        exact ⟨⟨k + 1, by omega, by go_num, hB7, hB⟩, by simp [intOf]; try omega⟩
      · obtain rfl : k = N := by omega
        obtain ⟨q, hq, hq2⟩ : ∃ q : Nat, t - 1 = q ∧ q < k := ⟨(t - 1).toNat, by have := hn3.out; omega, by have := hn3.out; have := eN.out; omega⟩
        obtain ⟨ad, u, rfl, d0, hu⟩ := kbb_at (rk_C hO) q (by rw [hlen.out]; exact hq2)
        have d0 := pw_cell_below hB7 d0
        have hu := hu.below hB7
        have hrow : Hid ((((allOf p).map point).map (bsh W (point t) tape n)).getD q [] = bsh W (point t) tape n (point t)) := Lib.hid (by
          have h1 := hlen.out
          rw [List.length_map] at h1
          have h2 := point_at13 p q (by omega)
          rw [show (q : Int) + 1 = t from by omega] at h2
          rw [← h2]
          simp [List.getD_eq_getElem?_getD, show q < (allOf p).length by rw [List.length_map] at h1; omega])
        rw [hrow.out] at hu
        have hz0 := Lib.hid (fun j => bsh_own W n (point t) tape j)
        have n5 : IntKind.i64.wrap (t - 1) = (q : Int) := by rw [hq]; exact wrapI _ (by omega) (by have := hN.out; have := eN.out; omega)
        have n6 : (q : Int) < (k : Int) := by omega
        have n7 : t - 1 = (q : Int) := hq
        have n8 : IntKind.i64.wrap (q : Int) = (q : Int) := wrapI _ (by omega) (by have := hN.out; have := eN.out; omega)
        clear hq
        generalize bsh W (point t) tape n (point t) = row at *
        obtain ⟨Ar, cr, rfl⟩ := rk_form hu
        have hrl := kb_len (rk_C hu)
        go_wp2_with fail
        go_loop [15, 112] (fun _ i => ∃ j : Nat, j ≤ row.length ∧ i = .int .i64 j) (fun _ i => row.length - (intOf i).toNat)
        case atStart => exact ⟨0, by omega, rfl⟩
        case round =>
          obtain ⟨j, hj, rfl⟩ := hrel
          by_cases hlt2 : j < row.length
          · obtain ⟨adr, rfl, c7⟩ := kb_at (rk_C hu) j hlt2
            rw [hz0.out j] at c7
            replace c7 : wr.cell? (adr.add j) = some (.int .u8 0) := c7
            go_wp2
            exact ⟨⟨j + 1, by omega, by go_num⟩, by simp [intOf]; try omega⟩
          · obtain rfl : j = row.length := by omega
            go_wp2_with fail
            refine (alive13 _).mono ?_
            rintro e w9 ⟨rfl, h⟩
            have hB := bt_ hB h
            clear h
            go_wp2
            go_ret
            exact ⟨rfl, hB⟩
set_option maxRecDepth 100000 in
theorem BlindShares_walk (w : World) (N : Int) (hN : -9223372036854775808 ≤ N ∧ N ≤ 9223372036854775807) (T : Int) (hT : -9223372036854775808 ≤ T ∧ T ≤ 9223372036854775807) (L : Int) (hL : -9223372036854775808 ≤ L ∧ L ≤ 9223372036854775807) (W : Int) (hW : -9223372036854775808 ≤ W ∧ W ≤ 9223372036854775807) (S : Int) (hS : -9223372036854775808 ≤ S ∧ S ≤ 9223372036854775807) (R : Int) (hR : -9223372036854775808 ≤ R ∧ R ≤ 9223372036854775807) (n : Int) (hn : -9223372036854775808 ≤ n ∧ n ≤ 9223372036854775807) (t : Int) (htt : -9223372036854775808 ≤ t ∧ t ≤ 9223372036854775807) (v : Value) (l : List F) (hv : Rb w v l) :
   Calls Try.prog 16 #[.agg #[.int .i64 N, .int .i64 T, .int .i64 L, .int .i64 W, .int .i64 S, .int .i64 R], .agg #[.int .i64 n, .int .i64 t], v] w fun e w' => e = .returned (.bool true) ∧ Below w.heap.size w w' := by
  by_cases hf : Lite ⟨N, T, L, W, S, R⟩ ∧ l.length ≤ 900
  · by_cases h : (Pl.mk N T L W S R).Ok
    · by_cases hs : (0 ≤ n ∧ n ≤ 240) ∧ (1 ≤ t ∧ t ≤ (Pl.mk N T L W S R).N)
      · by_cases hl : (l.length : Int) < (T + L - 1) * n
        · exact blindShares_short _ h n t hs v l w hv hf.1 hf.2 hl
        · obtain ⟨k, rfl⟩ := Int.eq_ofNat_of_zero_le hs.1.1
          exact blindShares_ok _ h k t hs.1.2 hs.2 v l w hv hf.1 hf.2 (by show (T + L - 1) * (k : Int) ≤ _; omega)
      · exact blindShares_two _ h n t hs v l w hv hf.1 hf.2
    · exact blindShares_no _ ⟨hN, hT, hL, hW, hS, hR⟩ h n t v l w hv hf.1 hf.2
  · exact blindShares_far ⟨N, T, L, W, S, R⟩ n t v l w hv hf
end Go.Proofs.Ytijeabhfddaoaaa
