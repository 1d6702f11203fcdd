/- The walk of the law BlindFinds. -/
import Derived.Test.YtijeabhfddaoaaaL13
import Derived.Test.YtijeabhfddaoaaaR13b
import Derived.Test.YtijeabhfddaoaaaR13c
namespace Go.Proofs.Ytijeabhfddaoaaa
set_option linter.unusedVariables false
open Go.RowKit Go.Proofs.YtijeabhfddaoaaaW.PrintWords Go.Proofs.Sh

set_option maxRecDepth 100000 in
set_option maxHeartbeats 3200000 in
theorem blindFinds_far (p : Pl) (n t : Int) (v u : Value) (who : List Int) (parts : List (List F)) (w : World) (hv : Ri w v who) (hu : Rbb w u parts) (h : ¬ (Lite p ∧ who.length ≤ 14 ∧ parts.length ≤ 14)) :
   Calls Try.prog 25 #[planV p, .agg #[.int .i64 n, .int .i64 t, v, u]] w fun e w' => e = .returned (.bool true) ∧ Below w.heap.size w w' := by
  by_cases hL : Lite p
  · by_cases h1 : who.length ≤ 14
    · have t1 : decide ((14 : Int) < (who.length : Int)) = false := decide_eq_false (by omega)
      have t2 : (14 : Int) < (parts.length : Int) := by
        have : ¬ parts.length ≤ 14 := fun e => h ⟨hL, h1, e⟩
        omega
      replace hL := Lib.hid (decide_eq_true hL)
      clear h h1
      obtain ⟨A, c, rfl, hc, hr⟩ := hv
      obtain ⟨B, d, rfl, hd, hs⟩ := hu
      have hv : Ri w (.slice A who.length c) who := ⟨A, c, rfl, hc, hr⟩
      have hu : Rbb w (.slice B parts.length d) parts := ⟨B, d, rfl, hd, hs⟩
      have HP := (Blk.new w (planC p) 33).alloc (.cells #[.int .i64 n, .int .i64 t, .slice A who.length c, .slice B parts.length d] 107)
      have HQ := Blk.new' (w.alloc (.cells (planC p) 33)) #[.int .i64 n, .int .i64 t, .slice A who.length c, .slice B parts.length d] 107 (World.size_alloc _ _)
      have hB := below_alloc (below_alloc (Below.refl w.heap.size w) (.cells (planC p) 33)) (.cells #[.int .i64 n, .int .i64 t, .slice A who.length c, .slice B parts.length d] 107)
      have hv := hv.below hB
      have hu := hu.below hB
      go_enter Try.func25, Try.ntmps25
      go_wp2_with fail
      generalize (w.alloc (.cells (planC p) 33)).alloc (.cells #[.int .i64 n, .int .i64 t, .slice A who.length c, .slice B parts.length d] 107) = w1 at *
      obtain ⟨c0, c1, c2, c3, c4, c5⟩ := cells6 HP; have q0 := HQ.cell 0 _ rfl; have q1 := HQ.cell 1 _ rfl; have q2 := HQ.cell 2 _ rfl; have q3 := HQ.cell 3 _ rfl
      go_wp2_with fail
      refine (light_c p _).mono ?_
      rintro e w2 ⟨rfl, h2⟩
      rw [hL.out]
      have HP := HP.below h2
      have HQ := HQ.below h2
      have hB := bt_ hB h2
      have hv := hv.below h2
      have hu := hu.below h2
      obtain ⟨c0, c1, c2, c3, c4, c5⟩ := cells6 HP; have q0 := HQ.cell 0 _ rfl; have q1 := HQ.cell 1 _ rfl; have q2 := HQ.cell 2 _ rfl; have q3 := HQ.cell 3 _ rfl
      clear h2 hr hs
      go_wp2_with fail
      refine (alive13 _).mono ?_
      rintro e w9 ⟨rfl, h⟩
      have hB := bt_ hB h
      clear h
      go_wp2
      go_ret
      exact ⟨rfl, hB⟩
    · have t1 : (14 : Int) < (who.length : Int) := by omega
      replace hL := Lib.hid (decide_eq_true hL)
      clear h h1
      obtain ⟨A, c, rfl, hc, hr⟩ := hv
      obtain ⟨B, d, rfl, hd, hs⟩ := hu
      have hv : Ri w (.slice A who.length c) who := ⟨A, c, rfl, hc, hr⟩
      have hu : Rbb w (.slice B parts.length d) parts := ⟨B, d, rfl, hd, hs⟩
      have HP := (Blk.new w (planC p) 33).alloc (.cells #[.int .i64 n, .int .i64 t, .slice A who.length c, .slice B parts.length d] 107)
      have HQ := Blk.new' (w.alloc (.cells (planC p) 33)) #[.int .i64 n, .int .i64 t, .slice A who.length c, .slice B parts.length d] 107 (World.size_alloc _ _)
      have hB := below_alloc (below_alloc (Below.refl w.heap.size w) (.cells (planC p) 33)) (.cells #[.int .i64 n, .int .i64 t, .slice A who.length c, .slice B parts.length d] 107)
      have hv := hv.below hB
      have hu := hu.below hB
      go_enter Try.func25, Try.ntmps25
      go_wp2_with fail
      generalize (w.alloc (.cells (planC p) 33)).alloc (.cells #[.int .i64 n, .int .i64 t, .slice A who.length c, .slice B parts.length d] 107) = w1 at *
      obtain ⟨c0, c1, c2, c3, c4, c5⟩ := cells6 HP; have q0 := HQ.cell 0 _ rfl; have q1 := HQ.cell 1 _ rfl; have q2 := HQ.cell 2 _ rfl; have q3 := HQ.cell 3 _ rfl
      go_wp2_with fail
      refine (light_c p _).mono ?_
      rintro e w2 ⟨rfl, h2⟩
      rw [hL.out]
      have HP := HP.below h2
      have HQ := HQ.below h2
      have hB := bt_ hB h2
      have hv := hv.below h2
      have hu := hu.below h2
      obtain ⟨c0, c1, c2, c3, c4, c5⟩ := cells6 HP; have q0 := HQ.cell 0 _ rfl; have q1 := HQ.cell 1 _ rfl; have q2 := HQ.cell 2 _ rfl; have q3 := HQ.cell 3 _ rfl
      clear h2 hr hs
      go_wp2_with fail
      refine (alive13 _).mono ?_
      rintro e w9 ⟨rfl, h⟩
      have hB := bt_ hB h
      clear h
      go_wp2
      go_ret
      exact ⟨rfl, hB⟩
  · replace hL := Lib.hid (decide_eq_false hL)
    clear h
    obtain ⟨A, c, rfl, hc, hr⟩ := hv
    obtain ⟨B, d, rfl, hd, hs⟩ := hu
    have hv : Ri w (.slice A who.length c) who := ⟨A, c, rfl, hc, hr⟩
    have hu : Rbb w (.slice B parts.length d) parts := ⟨B, d, rfl, hd, hs⟩
    have HP := (Blk.new w (planC p) 33).alloc (.cells #[.int .i64 n, .int .i64 t, .slice A who.length c, .slice B parts.length d] 107)
    have HQ := Blk.new' (w.alloc (.cells (planC p) 33)) #[.int .i64 n, .int .i64 t, .slice A who.length c, .slice B parts.length d] 107 (World.size_alloc _ _)
    have hB := below_alloc (below_alloc (Below.refl w.heap.size w) (.cells (planC p) 33)) (.cells #[.int .i64 n, .int .i64 t, .slice A who.length c, .slice B parts.length d] 107)
    have hv := hv.below hB
    have hu := hu.below hB
    go_enter Try.func25, Try.ntmps25
    go_wp2_with fail
    generalize (w.alloc (.cells (planC p) 33)).alloc (.cells #[.int .i64 n, .int .i64 t, .slice A who.length c, .slice B parts.length d] 107) = w1 at *
    obtain ⟨c0, c1, c2, c3, c4, c5⟩ := cells6 HP; have q0 := HQ.cell 0 _ rfl; have q1 := HQ.cell 1 _ rfl; have q2 := HQ.cell 2 _ rfl; have q3 := HQ.cell 3 _ rfl
    go_wp2_with fail
    refine (light_c p _).mono ?_
    rintro e w2 ⟨rfl, h2⟩
    rw [hL.out]
    have HP := HP.below h2
    have HQ := HQ.below h2
    have hB := bt_ hB h2
    have hv := hv.below h2
    have hu := hu.below h2
    obtain ⟨c0, c1, c2, c3, c4, c5⟩ := cells6 HP; have q0 := HQ.cell 0 _ rfl; have q1 := HQ.cell 1 _ rfl; have q2 := HQ.cell 2 _ rfl; have q3 := HQ.cell 3 _ rfl
    clear h2 hr hs
    go_wp2_with fail
    refine (alive13 _).mono ?_
    rintro e w9 ⟨rfl, h⟩
    have hB := bt_ hB h
    clear h
    go_wp2
    go_ret
    exact ⟨rfl, hB⟩
set_option maxRecDepth 100000 in
set_option maxHeartbeats 3200000 in
theorem blindFinds_no (p : Pl) (hi : p.In) (h : ¬ p.Ok) (n t : Int) (v u : Value) (who : List Int) (parts : List (List F)) (w : World) (hv : Ri w v who) (hu : Rbb w u parts) (hL : Lite p) (hl1 : who.length ≤ 14) (hl2 : parts.length ≤ 14) :
   Calls Try.prog 25 #[planV p, .agg #[.int .i64 n, .int .i64 t, v, u]] w fun e w' => e = .returned (.bool true) ∧ Below w.heap.size w w' := by
  replace hL := Lib.hid (decide_eq_true hL)
  have t1 : decide ((14 : Int) < (who.length : Int)) = false := decide_eq_false (by omega)
  have t2 : decide ((14 : Int) < (parts.length : Int)) = false := decide_eq_false (by omega)
  obtain ⟨A, c, rfl, hc, hr⟩ := hv
  obtain ⟨B, d, rfl, hd, hs⟩ := hu
  have hv : Ri w (.slice A who.length c) who := ⟨A, c, rfl, hc, hr⟩
  have hu : Rbb w (.slice B parts.length d) parts := ⟨B, d, rfl, hd, hs⟩
  have HP := (Blk.new w (planC p) 33).alloc (.cells #[.int .i64 n, .int .i64 t, .slice A who.length c, .slice B parts.length d] 107)
  have HQ := Blk.new' (w.alloc (.cells (planC p) 33)) #[.int .i64 n, .int .i64 t, .slice A who.length c, .slice B parts.length d] 107 (World.size_alloc _ _)
  have hB := below_alloc (below_alloc (Below.refl w.heap.size w) (.cells (planC p) 33)) (.cells #[.int .i64 n, .int .i64 t, .slice A who.length c, .slice B parts.length d] 107)
  have hv := hv.below hB
  have hu := hu.below hB
  go_enter Try.func25, Try.ntmps25
  go_wp2_with fail
  generalize (w.alloc (.cells (planC p) 33)).alloc (.cells #[.int .i64 n, .int .i64 t, .slice A who.length c, .slice B parts.length d] 107) = w1 at *
  obtain ⟨c0, c1, c2, c3, c4, c5⟩ := cells6 HP; have q0 := HQ.cell 0 _ rfl; have q1 := HQ.cell 1 _ rfl; have q2 := HQ.cell 2 _ rfl; have q3 := HQ.cell 3 _ rfl
  go_wp2_with fail
  refine (light_c p _).mono ?_
  rintro e w2 ⟨rfl, h2⟩
  rw [hL.out]
  have HP := HP.below h2
  have HQ := HQ.below h2
  have hB := bt_ hB h2
  have hv := hv.below h2
  have hu := hu.below h2
  obtain ⟨c0, c1, c2, c3, c4, c5⟩ := cells6 HP; have q0 := HQ.cell 0 _ rfl; have q1 := HQ.cell 1 _ rfl; have q2 := HQ.cell 2 _ rfl; have q3 := HQ.cell 3 _ rfl
  clear h2 hr hs
  go_wp2_with fail
  go_loop [6, 29] (fun _ i => ∃ k : Nat, k ≤ parts.length ∧ i = .int .i64 k) (fun _ i => parts.length - (intOf i).toNat)
  case atStart => exact ⟨0, by omega, rfl⟩
  case round =>
    obtain ⟨k, hk, rfl⟩ := hrel
    by_cases hlt : k < parts.length
    · obtain ⟨ad, u5, rfl, d0, hu5⟩ := kbb_at (rk_C hu) k hlt
      generalize parts.getD k [] = r at *
      obtain ⟨A9, c9, rfl⟩ := rk_form hu5
      by_cases hr9 : 250 < r.length
      · have t3 : (250 : Int) < (r.length : Int) := by omega
        go_wp2_with fail
        refine (alive13 _).mono ?_
        rintro e w9 ⟨rfl, h⟩
        have hB := bt_ hB h
        clear h
        go_wp2
        go_ret
        exact ⟨rfl, hB⟩
      · have t3 : decide ((250 : Int) < (r.length : Int)) = false := decide_eq_false (by omega)
        go_wp2
        exact ⟨⟨k + 1, by omega, by go_num⟩, by simp [intOf]; try omega⟩
    · obtain rfl : k = parts.length := by omega
      go_upto_region 9 with fail
      go_cut [7, 8] (fun s7 s8 wx => (s7 = .slice none 0 0 ∧ s8 = .int .i64 1) ∧ Rbb wx (.slice B parts.length d) parts ∧ Ri wx (.slice A who.length c) who ∧ Blk wx w.heap.size (planC p) 33 ∧ Blk wx (w.heap.size + 1) #[.int .i64 n, .int .i64 t, .slice A who.length c, .slice B parts.length d] 107 ∧ Below w.heap.size w wx)
      case first =>
        go_region_held3 (fun w' => w'.cell? ⟨w.heap.size, 0, none⟩ = some (.int .i64 p.N) ∧ w'.cell? ⟨w.heap.size, 1, none⟩ = some (.int .i64 p.T) ∧ w'.cell? ⟨w.heap.size, 2, none⟩ = some (.int .i64 p.L) ∧ w'.cell? ⟨w.heap.size, 3, none⟩ = some (.int .i64 p.W) ∧ w'.cell? ⟨w.heap.size, 4, none⟩ = some (.int .i64 p.S) ∧ w'.cell? ⟨w.heap.size, 5, none⟩ = some (.int .i64 p.R) ∧ w'.cell? ⟨w.heap.size + 1, 0, none⟩ = some (.int .i64 n) ∧ w'.cell? ⟨w.heap.size + 1, 1, none⟩ = some (.int .i64 t) ∧ w'.cell? ⟨w.heap.size + 1, 2, none⟩ = some (.slice A who.length c) ∧ w'.cell? ⟨w.heap.size + 1, 3, none⟩ = some (.slice B parts.length d))
          (go_keep)
          (first
            | (go_at_call 38; refine (new_x _).mono ?_; rintro e w6 ⟨bF, rfl, hF, h6⟩; (repeat (first | replace h6 := ba h6 | replace h6 := buN h6 | replace h6 := bu h6)); have HP := HP.below h6; have HQ := HQ.below h6; have hB := bt_ hB h6; have hv := hv.below h6; have hu := hu.below h6; obtain ⟨c0, c1, c2, c3, c4, c5⟩ := cells6 HP; have q0 := HQ.cell 0 _ rfl; have q1 := HQ.cell 1 _ rfl; have q2 := HQ.cell 2 _ rfl; have q3 := HQ.cell 3 _ rfl)
            | (go_at_call 128; refine (bFind_no _ p h n t _ _ _).mono ?_; rintro e w6 ⟨rfl, h6⟩; skip; (repeat (first | replace h6 := ba h6 | replace h6 := buN h6 | replace h6 := bu h6)); have HP := HP.below h6; have HQ := HQ.below h6; have hB := bt_ hB h6; have hv := hv.below h6; have hu := hu.below h6; obtain ⟨c0, c1, c2, c3, c4, c5⟩ := cells6 HP; have q0 := HQ.cell 0 _ rfl; have q1 := HQ.cell 1 _ rfl; have q2 := HQ.cell 2 _ rfl; have q3 := HQ.cell 3 _ rfl)
            | fail)
        all_goals
          go_wp2_with fail
          go_meet
          exact ⟨⟨rfl, rfl⟩, hu, hv, HP, HQ, hB⟩
      case rest =>
        clear c0 c1 c2 c3 c4 c5 q0 q1 q2 q3
        obtain ⟨hs78, hu, hv, HP, HQ, hB⟩ := hcut
        obtain ⟨c0, c1, c2, c3, c4, c5⟩ := cells6 HP; have q0 := HQ.cell 0 _ rfl; have q1 := HQ.cell 1 _ rfl; have q2 := HQ.cell 2 _ rfl; have q3 := HQ.cell 3 _ rfl
        obtain ⟨rfl, rfl⟩ := hs78
        go_wp2_with fail
        refine (rCheck13_no p hi h n t _).mono ?_
        rintro e w6 ⟨rfl, h6⟩
        have hB := bt_ hB h6
        go_wp2_with fail
        refine (alive13 _).mono ?_
        rintro e w9 ⟨rfl, h⟩
        have hB := bt_ hB h
        clear h
        go_wp2
        go_ret
        exact ⟨rfl, hB⟩
set_option maxRecDepth 100000 in
set_option maxHeartbeats 3200000 in
theorem blindFinds_two (p : Pl) (h : p.Ok) (n t : Int) (hn : ¬ ((0 ≤ n ∧ n ≤ 240) ∧ (1 ≤ t ∧ t ≤ p.N))) (v u : Value) (who : List Int) (parts : List (List F)) (w : World) (hv : Ri w v who) (hu : Rbb w u parts) (hL : Lite p) (hl1 : who.length ≤ 14) (hl2 : parts.length ≤ 14) :
   Calls Try.prog 25 #[planV p, .agg #[.int .i64 n, .int .i64 t, v, u]] w fun e w' => e = .returned (.bool true) ∧ Below w.heap.size w w' := by
  replace hn := Lib.hid hn
  replace hL := Lib.hid (decide_eq_true hL)
  have t1 : decide ((14 : Int) < (who.length : Int)) = false := decide_eq_false (by omega)
  have t2 : decide ((14 : Int) < (parts.length : Int)) = false := decide_eq_false (by omega)
  obtain ⟨A, c, rfl, hc, hr⟩ := hv
  obtain ⟨B, d, rfl, hd, hs⟩ := hu
  have hv : Ri w (.slice A who.length c) who := ⟨A, c, rfl, hc, hr⟩
  have hu : Rbb w (.slice B parts.length d) parts := ⟨B, d, rfl, hd, hs⟩
  have HP := (Blk.new w (planC p) 33).alloc (.cells #[.int .i64 n, .int .i64 t, .slice A who.length c, .slice B parts.length d] 107)
  have HQ := Blk.new' (w.alloc (.cells (planC p) 33)) #[.int .i64 n, .int .i64 t, .slice A who.length c, .slice B parts.length d] 107 (World.size_alloc _ _)
  have hB := below_alloc (below_alloc (Below.refl w.heap.size w) (.cells (planC p) 33)) (.cells #[.int .i64 n, .int .i64 t, .slice A who.length c, .slice B parts.length d] 107)
  have hv := hv.below hB
  have hu := hu.below hB
  go_enter Try.func25, Try.ntmps25
  go_wp2_with fail
  generalize (w.alloc (.cells (planC p) 33)).alloc (.cells #[.int .i64 n, .int .i64 t, .slice A who.length c, .slice B parts.length d] 107) = w1 at *
  obtain ⟨c0, c1, c2, c3, c4, c5⟩ := cells6 HP; have q0 := HQ.cell 0 _ rfl; have q1 := HQ.cell 1 _ rfl; have q2 := HQ.cell 2 _ rfl; have q3 := HQ.cell 3 _ rfl
  go_wp2_with fail
  refine (light_c p _).mono ?_
  rintro e w2 ⟨rfl, h2⟩
  rw [hL.out]
  have HP := HP.below h2
  have HQ := HQ.below h2
  have hB := bt_ hB h2
  have hv := hv.below h2
  have hu := hu.below h2
  obtain ⟨c0, c1, c2, c3, c4, c5⟩ := cells6 HP; have q0 := HQ.cell 0 _ rfl; have q1 := HQ.cell 1 _ rfl; have q2 := HQ.cell 2 _ rfl; have q3 := HQ.cell 3 _ rfl
  clear h2 hr hs
  go_wp2_with fail
  go_loop [6, 29] (fun _ i => ∃ k : Nat, k ≤ parts.length ∧ i = .int .i64 k) (fun _ i => parts.length - (intOf i).toNat)
  case atStart => exact ⟨0, by omega, rfl⟩
  case round =>
    obtain ⟨k, hk, rfl⟩ := hrel
    by_cases hlt : k < parts.length
    · obtain ⟨ad, u5, rfl, d0, hu5⟩ := kbb_at (rk_C hu) k hlt
      generalize parts.getD k [] = r at *
      obtain ⟨A9, c9, rfl⟩ := rk_form hu5
      by_cases hr9 : 250 < r.length
      · have t3 : (250 : Int) < (r.length : Int) := by omega
        go_wp2_with fail
        refine (alive13 _).mono ?_
        rintro e w9 ⟨rfl, h⟩
        have hB := bt_ hB h
        clear h
        go_wp2
        go_ret
        exact ⟨rfl, hB⟩
      · have t3 : decide ((250 : Int) < (r.length : Int)) = false := decide_eq_false (by omega)
        go_wp2
        exact ⟨⟨k + 1, by omega, by go_num⟩, by simp [intOf]; try omega⟩
    · obtain rfl : k = parts.length := by omega
      go_upto_region 9 with fail
      go_cut [7, 8] (fun s7 s8 wx => (s7 = .slice none 0 0 ∧ s8 = .int .i64 2) ∧ Rbb wx (.slice B parts.length d) parts ∧ Ri wx (.slice A who.length c) who ∧ Blk wx w.heap.size (planC p) 33 ∧ Blk wx (w.heap.size + 1) #[.int .i64 n, .int .i64 t, .slice A who.length c, .slice B parts.length d] 107 ∧ Below w.heap.size w wx)
      case first =>
        go_region_held3 (fun w' => w'.cell? ⟨w.heap.size, 0, none⟩ = some (.int .i64 p.N) ∧ w'.cell? ⟨w.heap.size, 1, none⟩ = some (.int .i64 p.T) ∧ w'.cell? ⟨w.heap.size, 2, none⟩ = some (.int .i64 p.L) ∧ w'.cell? ⟨w.heap.size, 3, none⟩ = some (.int .i64 p.W) ∧ w'.cell? ⟨w.heap.size, 4, none⟩ = some (.int .i64 p.S) ∧ w'.cell? ⟨w.heap.size, 5, none⟩ = some (.int .i64 p.R) ∧ w'.cell? ⟨w.heap.size + 1, 0, none⟩ = some (.int .i64 n) ∧ w'.cell? ⟨w.heap.size + 1, 1, none⟩ = some (.int .i64 t) ∧ w'.cell? ⟨w.heap.size + 1, 2, none⟩ = some (.slice A who.length c) ∧ w'.cell? ⟨w.heap.size + 1, 3, none⟩ = some (.slice B parts.length d))
          (go_keep)
          (first
            | (go_at_call 38; refine (new_x _).mono ?_; rintro e w6 ⟨bF, rfl, hF, h6⟩; (repeat (first | replace h6 := ba h6 | replace h6 := buN h6 | replace h6 := bu h6)); have HP := HP.below h6; have HQ := HQ.below h6; have hB := bt_ hB h6; have hv := hv.below h6; have hu := hu.below h6; obtain ⟨c0, c1, c2, c3, c4, c5⟩ := cells6 HP; have q0 := HQ.cell 0 _ rfl; have q1 := HQ.cell 1 _ rfl; have q2 := HQ.cell 2 _ rfl; have q3 := HQ.cell 3 _ rfl)
            | (go_at_call 128; refine (bFind_two _ p h n t hn.out _ _ _).mono ?_; rintro e w6 ⟨rfl, h6⟩; skip; (repeat (first | replace h6 := ba h6 | replace h6 := buN h6 | replace h6 := bu h6)); have HP := HP.below h6; have HQ := HQ.below h6; have hB := bt_ hB h6; have hv := hv.below h6; have hu := hu.below h6; obtain ⟨c0, c1, c2, c3, c4, c5⟩ := cells6 HP; have q0 := HQ.cell 0 _ rfl; have q1 := HQ.cell 1 _ rfl; have q2 := HQ.cell 2 _ rfl; have q3 := HQ.cell 3 _ rfl)
            | fail)
        all_goals
          go_wp2_with fail
          go_meet
          exact ⟨⟨rfl, rfl⟩, hu, hv, HP, HQ, hB⟩
      case rest =>
        clear c0 c1 c2 c3 c4 c5 q0 q1 q2 q3
        obtain ⟨hs78, hu, hv, HP, HQ, hB⟩ := hcut
        obtain ⟨c0, c1, c2, c3, c4, c5⟩ := cells6 HP; have q0 := HQ.cell 0 _ rfl; have q1 := HQ.cell 1 _ rfl; have q2 := HQ.cell 2 _ rfl; have q3 := HQ.cell 3 _ rfl
        obtain ⟨rfl, rfl⟩ := hs78
        go_wp2_with fail
        refine (rCheck13_two p h n t hn.out _).mono ?_
        rintro e w6 ⟨rfl, h6⟩
        have hB := bt_ hB h6
        go_wp2_with fail
        refine (alive13 _).mono ?_
        rintro e w9 ⟨rfl, h⟩
        have hB := bt_ hB h
        clear h
        go_wp2
        go_ret
        exact ⟨rfl, hB⟩
set_option maxRecDepth 100000 in
set_option maxHeartbeats 3200000 in
theorem blindFinds_am (p : Pl) (h : p.Ok) (n t : Int) (hn : (0 ≤ n ∧ n ≤ 240) ∧ (1 ≤ t ∧ t ≤ p.N)) (v u : Value) (who : List Int) (parts : List (List F)) (w : World) (hv : Ri w v who) (hu : Rbb w u parts) (hL : Lite p) (hl1 : who.length ≤ 14) (hl2 : parts.length ≤ 14) (ha : amE p n t who parts ≠ 0) :
   Calls Try.prog 25 #[planV p, .agg #[.int .i64 n, .int .i64 t, v, u]] w fun e w' => e = .returned (.bool true) ∧ Below w.heap.size w w' := by
  replace hn := Lib.hid hn
  have t9 : (amE p n t who parts != 0) = true := bne_iff_ne.2 ha
  replace ha := Lib.hid ha
  replace hL := Lib.hid (decide_eq_true hL)
  have t1 : decide ((14 : Int) < (who.length : Int)) = false := decide_eq_false (by omega)
  have t2 : decide ((14 : Int) < (parts.length : Int)) = false := decide_eq_false (by omega)
  obtain ⟨A, c, rfl, hc, hr⟩ := hv
  obtain ⟨B, d, rfl, hd, hs⟩ := hu
  have hv : Ri w (.slice A who.length c) who := ⟨A, c, rfl, hc, hr⟩
  have hu : Rbb w (.slice B parts.length d) parts := ⟨B, d, rfl, hd, hs⟩
  have HP := (Blk.new w (planC p) 33).alloc (.cells #[.int .i64 n, .int .i64 t, .slice A who.length c, .slice B parts.length d] 107)
  have HQ := Blk.new' (w.alloc (.cells (planC p) 33)) #[.int .i64 n, .int .i64 t, .slice A who.length c, .slice B parts.length d] 107 (World.size_alloc _ _)
  have hB := below_alloc (below_alloc (Below.refl w.heap.size w) (.cells (planC p) 33)) (.cells #[.int .i64 n, .int .i64 t, .slice A who.length c, .slice B parts.length d] 107)
  have hv := hv.below hB
  have hu := hu.below hB
  go_enter Try.func25, Try.ntmps25
  go_wp2_with fail
  generalize (w.alloc (.cells (planC p) 33)).alloc (.cells #[.int .i64 n, .int .i64 t, .slice A who.length c, .slice B parts.length d] 107) = w1 at *
  obtain ⟨c0, c1, c2, c3, c4, c5⟩ := cells6 HP; have q0 := HQ.cell 0 _ rfl; have q1 := HQ.cell 1 _ rfl; have q2 := HQ.cell 2 _ rfl; have q3 := HQ.cell 3 _ rfl
  go_wp2_with fail
  refine (light_c p _).mono ?_
  rintro e w2 ⟨rfl, h2⟩
  rw [hL.out]
  have HP := HP.below h2
  have HQ := HQ.below h2
  have hB := bt_ hB h2
  have hv := hv.below h2
  have hu := hu.below h2
  obtain ⟨c0, c1, c2, c3, c4, c5⟩ := cells6 HP; have q0 := HQ.cell 0 _ rfl; have q1 := HQ.cell 1 _ rfl; have q2 := HQ.cell 2 _ rfl; have q3 := HQ.cell 3 _ rfl
  clear h2 hr hs
  go_wp2_with fail
  go_loop [6, 29] (fun _ i => ∃ k : Nat, k ≤ parts.length ∧ i = .int .i64 k) (fun _ i => parts.length - (intOf i).toNat)
  case atStart => exact ⟨0, by omega, rfl⟩
  case round =>
    obtain ⟨k, hk, rfl⟩ := hrel
    by_cases hlt : k < parts.length
    · obtain ⟨ad, u5, rfl, d0, hu5⟩ := kbb_at (rk_C hu) k hlt
      generalize parts.getD k [] = r at *
      obtain ⟨A9, c9, rfl⟩ := rk_form hu5
      by_cases hr9 : 250 < r.length
      · have t3 : (250 : Int) < (r.length : Int) := by omega
        go_wp2_with fail
        refine (alive13 _).mono ?_
        rintro e w9 ⟨rfl, h⟩
        have hB := bt_ hB h
        clear h
        go_wp2
        go_ret
        exact ⟨rfl, hB⟩
      · have t3 : decide ((250 : Int) < (r.length : Int)) = false := decide_eq_false (by omega)
        go_wp2
        exact ⟨⟨k + 1, by omega, by go_num⟩, by simp [intOf]; try omega⟩
    · obtain rfl : k = parts.length := by omega
      go_upto_region 9 with fail
      go_cut [7, 8] (fun s7 s8 wx => (s7 = .slice none 0 0 ∧ s8 = .int .i64 (amE p n t who parts)) ∧ Rbb wx (.slice B parts.length d) parts ∧ Ri wx (.slice A who.length c) who ∧ Blk wx w.heap.size (planC p) 33 ∧ Blk wx (w.heap.size + 1) #[.int .i64 n, .int .i64 t, .slice A who.length c, .slice B parts.length d] 107 ∧ Below w.heap.size w wx)
      case first =>
        go_region_held3 (fun w' => w'.cell? ⟨w.heap.size, 0, none⟩ = some (.int .i64 p.N) ∧ w'.cell? ⟨w.heap.size, 1, none⟩ = some (.int .i64 p.T) ∧ w'.cell? ⟨w.heap.size, 2, none⟩ = some (.int .i64 p.L) ∧ w'.cell? ⟨w.heap.size, 3, none⟩ = some (.int .i64 p.W) ∧ w'.cell? ⟨w.heap.size, 4, none⟩ = some (.int .i64 p.S) ∧ w'.cell? ⟨w.heap.size, 5, none⟩ = some (.int .i64 p.R) ∧ w'.cell? ⟨w.heap.size + 1, 0, none⟩ = some (.int .i64 n) ∧ w'.cell? ⟨w.heap.size + 1, 1, none⟩ = some (.int .i64 t) ∧ w'.cell? ⟨w.heap.size + 1, 2, none⟩ = some (.slice A who.length c) ∧ w'.cell? ⟨w.heap.size + 1, 3, none⟩ = some (.slice B parts.length d))
          (go_keep)
          (first
            | (go_at_call 38; refine (new_x _).mono ?_; rintro e w6 ⟨bF, rfl, hF, h6⟩; (repeat (first | replace h6 := ba h6 | replace h6 := buN h6 | replace h6 := bu h6)); have HP := HP.below h6; have HQ := HQ.below h6; have hB := bt_ hB h6; have hv := hv.below h6; have hu := hu.below h6; obtain ⟨c0, c1, c2, c3, c4, c5⟩ := cells6 HP; have q0 := HQ.cell 0 _ rfl; have q1 := HQ.cell 1 _ rfl; have q2 := HQ.cell 2 _ rfl; have q3 := HQ.cell 3 _ rfl)
            | (go_at_call 128; refine (bFind_am _ p h n t hn.out _ _ who parts _ (by first | exact hv | exact hv.drew) (by first | exact hu | exact hu.drew) ha.out).mono ?_; rintro e w6 ⟨rfl, h6⟩; skip; (repeat (first | replace h6 := ba h6 | replace h6 := buN h6 | replace h6 := bu h6)); have HP := HP.below h6; have HQ := HQ.below h6; have hB := bt_ hB h6; have hv := hv.below h6; have hu := hu.below h6; obtain ⟨c0, c1, c2, c3, c4, c5⟩ := cells6 HP; have q0 := HQ.cell 0 _ rfl; have q1 := HQ.cell 1 _ rfl; have q2 := HQ.cell 2 _ rfl; have q3 := HQ.cell 3 _ rfl)
            | fail)
        all_goals
          go_wp2_with fail
          go_meet
          exact ⟨⟨rfl, rfl⟩, hu, hv, HP, HQ, hB⟩
      case rest =>
        clear c0 c1 c2 c3 c4 c5 q0 q1 q2 q3
        obtain ⟨hs78, hu, hv, HP, HQ, hB⟩ := hcut
        obtain ⟨c0, c1, c2, c3, c4, c5⟩ := cells6 HP; have q0 := HQ.cell 0 _ rfl; have q1 := HQ.cell 1 _ rfl; have q2 := HQ.cell 2 _ rfl; have q3 := HQ.cell 3 _ rfl
        obtain ⟨rfl, rfl⟩ := hs78
        go_wp2_with fail
        refine (rCheck13_ok p h n t hn.out _).mono ?_
        rintro e w6 ⟨rfl, h6⟩
        have HP := HP.below h6
        have HQ := HQ.below h6
        have hB := bt_ hB h6
        have hv := hv.below h6
        have hu := hu.below h6
        obtain ⟨c0, c1, c2, c3, c4, c5⟩ := cells6 HP; have q0 := HQ.cell 0 _ rfl; have q1 := HQ.cell 1 _ rfl; have q2 := HQ.cell 2 _ rfl; have q3 := HQ.cell 3 _ rfl
        go_wp2_with fail
        refine (rAmong_c p h n t _ _ who parts _ hv hu (by omega)).mono ?_
        rintro e w7 ⟨rfl, h7⟩
        have hB := bt_ hB h7
        go_wp2_with fail
        refine (alive13 _).mono ?_
        rintro e w9 ⟨rfl, h⟩
        have hB := bt_ hB h
        clear h
        go_wp2
        go_ret
        exact ⟨rfl, hB⟩
set_option maxRecDepth 100000 in
set_option maxHeartbeats 3200000 in
theorem blindFinds_ok (p : Pl) (h : p.Ok) (n : Nat) (t : Int) (hn2 : (n : Int) ≤ 240) (hn3 : 1 ≤ t ∧ t ≤ p.N) (v u : Value) (who : List Int) (parts : List (List F)) (w : World) (hv : Ri w v who) (hu : Rbb w u parts) (hL : Lite p) (hl1 : who.length ≤ 14) (hl2 : parts.length ≤ 14) (ha : amE p n t who parts = 0) :
   Calls Try.prog 25 #[planV p, .agg #[.int .i64 n, .int .i64 t, v, u]] w fun e w' => e = .returned (.bool true) ∧ Below w.heap.size w w' := by
  have hn : Hid ((0 ≤ (n : Int) ∧ (n : Int) ≤ 240) ∧ (1 ≤ t ∧ t ≤ p.N)) := Lib.hid ⟨⟨by omega, hn2⟩, hn3⟩
  obtain ⟨K, eK⟩ : ∃ K : Nat, p.T + p.L = K ∧ K < 255 := ⟨(p.T + p.L).toNat, by have := tl_range h; omega, by have := hL.2.1; have := hL.2.2; omega⟩
  replace eK := Lib.hid eK
  replace hn3 := Lib.hid hn3
  replace ha := Lib.hid ha
  replace hL := Lib.hid (decide_eq_true hL)
  have t1 : decide ((14 : Int) < (who.length : Int)) = false := decide_eq_false (by omega)
  have t2 : decide ((14 : Int) < (parts.length : Int)) = false := decide_eq_false (by omega)
  obtain ⟨A, c, rfl, hc, hr⟩ := hv
  obtain ⟨B, d, rfl, hd, hs⟩ := hu
  have hv : Ri w (.slice A who.length c) who := ⟨A, c, rfl, hc, hr⟩
  have hu : Rbb w (.slice B parts.length d) parts := ⟨B, d, rfl, hd, hs⟩
  have HP := (Blk.new w (planC p) 33).alloc (.cells #[.int .i64 n, .int .i64 t, .slice A who.length c, .slice B parts.length d] 107)
  have HQ := Blk.new' (w.alloc (.cells (planC p) 33)) #[.int .i64 n, .int .i64 t, .slice A who.length c, .slice B parts.length d] 107 (World.size_alloc _ _)
  have hB := below_alloc (below_alloc (Below.refl w.heap.size w) (.cells (planC p) 33)) (.cells #[.int .i64 n, .int .i64 t, .slice A who.length c, .slice B parts.length d] 107)
  have hv := hv.below hB
  have hu := hu.below hB
  go_enter Try.func25, Try.ntmps25
  go_wp2_with fail
  generalize (w.alloc (.cells (planC p) 33)).alloc (.cells #[.int .i64 n, .int .i64 t, .slice A who.length c, .slice B parts.length d] 107) = w1 at *
  obtain ⟨c0, c1, c2, c3, c4, c5⟩ := cells6 HP; have q0 := HQ.cell 0 _ rfl; have q1 := HQ.cell 1 _ rfl; have q2 := HQ.cell 2 _ rfl; have q3 := HQ.cell 3 _ rfl
  go_wp2_with fail
  refine (light_c p _).mono ?_
  rintro e w2 ⟨rfl, h2⟩
  rw [hL.out]
  have HP := HP.below h2
  have HQ := HQ.below h2
  have hB := bt_ hB h2
  have hv := hv.below h2
  have hu := hu.below h2
  obtain ⟨c0, c1, c2, c3, c4, c5⟩ := cells6 HP; have q0 := HQ.cell 0 _ rfl; have q1 := HQ.cell 1 _ rfl; have q2 := HQ.cell 2 _ rfl; have q3 := HQ.cell 3 _ rfl
  clear h2 hr hs
  go_wp2_with fail
  go_loop [6, 29] (fun _ i => ∃ k : Nat, k ≤ parts.length ∧ i = .int .i64 k) (fun _ i => parts.length - (intOf i).toNat)
  case atStart => exact ⟨0, by omega, rfl⟩
  case round =>
    obtain ⟨k, hk, rfl⟩ := hrel
    by_cases hlt : k < parts.length
    · obtain ⟨ad, u5, rfl, d0, hu5⟩ := kbb_at (rk_C hu) k hlt
      generalize parts.getD k [] = r at *
      obtain ⟨A9, c9, rfl⟩ := rk_form hu5
      by_cases hr9 : 250 < r.length
      · have t3 : (250 : Int) < (r.length : Int) := by omega
        go_wp2_with fail
        refine (alive13 _).mono ?_
        rintro e w9 ⟨rfl, h⟩
        have hB := bt_ hB h
        clear h
        go_wp2
        go_ret
        exact ⟨rfl, hB⟩
      · have t3 : decide ((250 : Int) < (r.length : Int)) = false := decide_eq_false (by omega)
        go_wp2
        exact ⟨⟨k + 1, by omega, by go_num⟩, by simp [intOf]; try omega⟩
    · obtain rfl : k = parts.length := by omega
      go_upto_region 9 with fail
      go_cut [7, 8] (fun s7 s8 wx => (Ob w wx s7 (F.findOf ((who.take K).map point) (point t) (parts.take K) n) ∧ s8 = .int .i64 0) ∧ Rbb wx (.slice B parts.length d) parts ∧ Ri wx (.slice A who.length c) who ∧ Blk wx w.heap.size (planC p) 33 ∧ Blk wx (w.heap.size + 1) #[.int .i64 n, .int .i64 t, .slice A who.length c, .slice B parts.length d] 107 ∧ Below w.heap.size w wx)
      case first =>
        go_region_held3 (fun w' => w'.cell? ⟨w.heap.size, 0, none⟩ = some (.int .i64 p.N) ∧ w'.cell? ⟨w.heap.size, 1, none⟩ = some (.int .i64 p.T) ∧ w'.cell? ⟨w.heap.size, 2, none⟩ = some (.int .i64 p.L) ∧ w'.cell? ⟨w.heap.size, 3, none⟩ = some (.int .i64 p.W) ∧ w'.cell? ⟨w.heap.size, 4, none⟩ = some (.int .i64 p.S) ∧ w'.cell? ⟨w.heap.size, 5, none⟩ = some (.int .i64 p.R) ∧ w'.cell? ⟨w.heap.size + 1, 0, none⟩ = some (.int .i64 n) ∧ w'.cell? ⟨w.heap.size + 1, 1, none⟩ = some (.int .i64 t) ∧ w'.cell? ⟨w.heap.size + 1, 2, none⟩ = some (.slice A who.length c) ∧ w'.cell? ⟨w.heap.size + 1, 3, none⟩ = some (.slice B parts.length d))
          (go_keep)
          (first
            | (go_at_call 38; refine (new_x _).mono ?_; rintro e w6 ⟨bF, rfl, hF, h6⟩; (repeat (first | replace h6 := ba h6 | replace h6 := buN h6 | replace h6 := bu h6)); have HP := HP.below h6; have HQ := HQ.below h6; have hB := bt_ hB h6; have hv := hv.below h6; have hu := hu.below h6; obtain ⟨c0, c1, c2, c3, c4, c5⟩ := cells6 HP; have q0 := HQ.cell 0 _ rfl; have q1 := HQ.cell 1 _ rfl; have q2 := HQ.cell 2 _ rfl; have q3 := HQ.cell 3 _ rfl)
            | (go_at_call 128; refine (bFind_ok _ p h n t hn2 hn3.out K eK.out.1 eK.out.2 _ _ who parts _ (by first | exact hF | exact hF.drew) (by first | exact hv | exact hv.drew) (by first | exact hu | exact hu.drew) ha.out).mono ?_; rintro e w6 ⟨vZ, rfl, sZ, h6⟩; replace sZ := sZ.lower (w0 := w) (by first | exact hB | exact below_drew hB); (repeat (first | replace h6 := ba h6 | replace h6 := buN h6 | replace h6 := bu h6)); have HP := HP.below h6; have HQ := HQ.below h6; have hB := bt_ hB h6; have hv := hv.below h6; have hu := hu.below h6; obtain ⟨c0, c1, c2, c3, c4, c5⟩ := cells6 HP; have q0 := HQ.cell 0 _ rfl; have q1 := HQ.cell 1 _ rfl; have q2 := HQ.cell 2 _ rfl; have q3 := HQ.cell 3 _ rfl)
            | fail)
        all_goals
          go_wp2_with fail
          go_meet
          exact ⟨⟨sZ, rfl⟩, hu, hv, HP, HQ, hB⟩
      case rest =>
        clear c0 c1 c2 c3 c4 c5 q0 q1 q2 q3
        obtain ⟨hs78, hu, hv, HP, HQ, hB⟩ := hcut
        obtain ⟨c0, c1, c2, c3, c4, c5⟩ := cells6 HP; have q0 := HQ.cell 0 _ rfl; have q1 := HQ.cell 1 _ rfl; have q2 := HQ.cell 2 _ rfl; have q3 := HQ.cell 3 _ rfl
        obtain ⟨hO, rfl⟩ := hs78
        go_wp2_with fail
        refine (rCheck13_ok p h n t hn.out _).mono ?_
        rintro e w6 ⟨rfl, h6⟩
        have hO := hO.rk.below h6
        have HP := HP.below h6
        have HQ := HQ.below h6
        have hB := bt_ hB h6
        have hv := hv.below h6
        have hu := hu.below h6
        obtain ⟨c0, c1, c2, c3, c4, c5⟩ := cells6 HP; have q0 := HQ.cell 0 _ rfl; have q1 := HQ.cell 1 _ rfl; have q2 := HQ.cell 2 _ rfl; have q3 := HQ.cell 3 _ rfl
        go_wp2_with fail
        refine (rAmong_c p h n t _ _ who parts _ hv hu (by omega)).mono ?_
        rintro e w7 ⟨rfl, h7⟩
        rw [ha.out]
        have hO := hO.below h7
        have HP := HP.below h7
        have HQ := HQ.below h7
        have hB := bt_ hB h7
        have hv := hv.below h7
        have hu := hu.below h7
        obtain ⟨c0, c1, c2, c3, c4, c5⟩ := cells6 HP; have q0 := HQ.cell 0 _ rfl; have q1 := HQ.cell 1 _ rfl; have q2 := HQ.cell 2 _ rfl; have q3 := HQ.cell 3 _ rfl
        go_wp2_with fail
        refine (rFind13_c p h n t hn2 K eK.out.1 eK.out.2 _ _ who parts _ hv hu ha.out).mono ?_
        rintro e w8 ⟨z, rfl, sz, h8⟩
        have hO := hO.below h8
        have hB := bt_ hB h8
        go_wp2_with fail
        refine (rSame_c _ _ _ _ _ hO sz.rk).mono ?_
        rintro e w9 ⟨rfl, h9⟩
        have hB := bd hB h9
        clear h9
        rw [decide_eq_true (rfl : F.findOf ((who.take K).map point) (point t) (parts.take K) n = F.findOf ((who.take K).map point) (point t) (parts.take K) n)]
        go_wp2_with fail
        refine (alive13 _).mono ?_
        rintro e w9 ⟨rfl, h⟩
        have hB := bt_ hB h
        clear h
        go_wp2
        go_ret
        exact ⟨rfl, hB⟩
set_option maxRecDepth 100000 in
theorem BlindFinds_walk (w : World) (N : Int) (hN : -9223372036854775808 ≤ N ∧ N ≤ 9223372036854775807) (T : Int) (hT : -9223372036854775808 ≤ T ∧ T ≤ 9223372036854775807) (L : Int) (hL : -9223372036854775808 ≤ L ∧ L ≤ 9223372036854775807) (W : Int) (hW : -9223372036854775808 ≤ W ∧ W ≤ 9223372036854775807) (S : Int) (hS : -9223372036854775808 ≤ S ∧ S ≤ 9223372036854775807) (R : Int) (hR : -9223372036854775808 ≤ R ∧ R ≤ 9223372036854775807) (n : Int) (hn : -9223372036854775808 ≤ n ∧ n ≤ 9223372036854775807) (t : Int) (htt : -9223372036854775808 ≤ t ∧ t ≤ 9223372036854775807)
   (v : Value) (who : List Int) (hv : Ri w v who) (hq : ∀ y ∈ who, -9223372036854775808 ≤ y ∧ y ≤ 9223372036854775807) (u : Value) (parts : List (List F)) (hu : Rbb w u parts) :
   Calls Try.prog 25 #[.agg #[.int .i64 N, .int .i64 T, .int .i64 L, .int .i64 W, .int .i64 S, .int .i64 R], .agg #[.int .i64 n, .int .i64 t, v, u]] w fun e w' => e = .returned (.bool true) ∧ Below w.heap.size w w' := by
  by_cases hf : Lite ⟨N, T, L, W, S, R⟩ ∧ who.length ≤ 14 ∧ parts.length ≤ 14
  · by_cases h : (Pl.mk N T L W S R).Ok
    · by_cases hs : (0 ≤ n ∧ n ≤ 240) ∧ (1 ≤ t ∧ t ≤ (Pl.mk N T L W S R).N)
      · by_cases ha : amE (Pl.mk N T L W S R) n t who parts = 0
        · obtain ⟨k, rfl⟩ := Int.eq_ofNat_of_zero_le hs.1.1
          exact blindFinds_ok _ h k t hs.1.2 hs.2 v u who parts w hv hu hf.1 hf.2.1 hf.2.2 ha
        · exact blindFinds_am _ h n t hs v u who parts w hv hu hf.1 hf.2.1 hf.2.2 ha
      · exact blindFinds_two _ h n t hs v u who parts w hv hu hf.1 hf.2.1 hf.2.2
    · exact blindFinds_no _ ⟨hN, hT, hL, hW, hS, hR⟩ h n t v u who parts w hv hu hf.1 hf.2.1 hf.2.2
  · exact blindFinds_far ⟨N, T, L, W, S, R⟩ n t v u who parts w hv hu hf
end Go.Proofs.Ytijeabhfddaoaaa
