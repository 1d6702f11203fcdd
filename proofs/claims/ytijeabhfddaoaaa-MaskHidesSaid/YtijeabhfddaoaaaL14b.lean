/- The walks of the laws of layer 14 (masks): MaskShifts. -/
import Derived.Test.YtijeabhfddaoaaaL14
import Derived.Test.YtijeabhfddaoaaaM11
namespace Go.Proofs.Ytijeabhfddaoaaa
set_option linter.unusedVariables false
open Go.RowKit Go.Proofs.YtijeabhfddaoaaaW.PrintWords Go.Proofs.Sh

set_option maxRecDepth 100000 in
set_option maxHeartbeats 3200000 in
theorem maskShifts_far (p : Pl) (v u : Value) (d : List F) (zs : List Int) (w : World) (hv : Rb w v d) (hu : Ri w u zs) (h : ¬ (Lite p ∧ d.length ≤ 20 ∧ zs.length ≤ 20)) :
   Calls Try.prog 29 #[planV p, v, u] w fun e w' => e = .returned (.bool true) ∧ Below w.heap.size w w' := by
  by_cases hL : Lite p
  · have hL2 := Lib.hid (decide_eq_true hL)
    by_cases h1 : d.length ≤ 20
    · have t1 : decide ((20 : Int) < (d.length : Int)) = false := decide_eq_false (by omega)
      have t2 : decide ((20 : Int) < (zs.length : Int)) = true := decide_eq_true (by
        have : ¬ zs.length ≤ 20 := fun e => h ⟨hL, h1, e⟩
        omega)
      clear h
      have HP := Blk.new w (planC p) 33
      have hB := below_alloc (Below.refl w.heap.size w) (.cells (planC p) 33)
      have hv := hv.below hB
      have hu := hu.below hB
      obtain ⟨Ad, cd, rfl, hcd, hrd⟩ := hv
      have hld := kb_len hrd
      have hv : Rb _ (.slice Ad d.length cd) d := ⟨Ad, cd, rfl, hcd, hrd⟩
      obtain ⟨Az, cz, rfl, hcz, hrz⟩ := hu
      have hlz := ri_len hrz
      have hu : Ri _ (.slice Az zs.length cz) zs := ⟨Az, cz, rfl, hcz, hrz⟩
      clear hrd hrz
      have hL := hL2
      go_enter Try.func29, Try.ntmps29
      go_wp2_with fail
      generalize w.alloc (.cells (planC p) 33) = w1 at *
      obtain ⟨c0, c1, c2, c3, c4, c5⟩ := cells6 HP
      refine (light_c p _).mono ?_
      rintro e w2 ⟨rfl, h2⟩
      rw [hL.out]
      have HP := HP.below h2
      have hv := hv.below h2
      have hu := hu.below h2
      have hB := bt_ hB h2
      obtain ⟨c0, c1, c2, c3, c4, c5⟩ := cells6 HP
      clear h2
      go_wp2_with fail
      refine (alive14 _).mono ?_
      rintro e w9 ⟨rfl, h⟩
      have hB := bt_ hB h
      clear h
      go_wp2
      go_ret
      exact ⟨rfl, hB⟩
    · have t1 : decide ((20 : Int) < (d.length : Int)) = true := decide_eq_true (by omega)
      clear h
      have HP := Blk.new w (planC p) 33
      have hB := below_alloc (Below.refl w.heap.size w) (.cells (planC p) 33)
      have hv := hv.below hB
      have hu := hu.below hB
      obtain ⟨Ad, cd, rfl, hcd, hrd⟩ := hv
      have hld := kb_len hrd
      have hv : Rb _ (.slice Ad d.length cd) d := ⟨Ad, cd, rfl, hcd, hrd⟩
      obtain ⟨Az, cz, rfl, hcz, hrz⟩ := hu
      have hlz := ri_len hrz
      have hu : Ri _ (.slice Az zs.length cz) zs := ⟨Az, cz, rfl, hcz, hrz⟩
      clear hrd hrz
      have hL := hL2
      go_enter Try.func29, Try.ntmps29
      go_wp2_with fail
      generalize w.alloc (.cells (planC p) 33) = w1 at *
      obtain ⟨c0, c1, c2, c3, c4, c5⟩ := cells6 HP
      refine (light_c p _).mono ?_
      rintro e w2 ⟨rfl, h2⟩
      rw [hL.out]
      have HP := HP.below h2
      have hv := hv.below h2
      have hu := hu.below h2
      have hB := bt_ hB h2
      obtain ⟨c0, c1, c2, c3, c4, c5⟩ := cells6 HP
      clear h2
      go_wp2_with fail
      refine (alive14 _).mono ?_
      rintro e w9 ⟨rfl, h⟩
      have hB := bt_ hB h
      clear h
      go_wp2
      go_ret
      exact ⟨rfl, hB⟩
  · have hL := Lib.hid (decide_eq_false hL)
    clear h
    have HP := Blk.new w (planC p) 33
    have hB := below_alloc (Below.refl w.heap.size w) (.cells (planC p) 33)
    have hv := hv.below hB
    have hu := hu.below hB
    obtain ⟨Ad, cd, rfl, hcd, hrd⟩ := hv
    have hld := kb_len hrd
    have hv : Rb _ (.slice Ad d.length cd) d := ⟨Ad, cd, rfl, hcd, hrd⟩
    obtain ⟨Az, cz, rfl, hcz, hrz⟩ := hu
    have hlz := ri_len hrz
    have hu : Ri _ (.slice Az zs.length cz) zs := ⟨Az, cz, rfl, hcz, hrz⟩
    clear hrd hrz
    go_enter Try.func29, Try.ntmps29
    go_wp2_with fail
    generalize w.alloc (.cells (planC p) 33) = w1 at *
    obtain ⟨c0, c1, c2, c3, c4, c5⟩ := cells6 HP
    refine (light_c p _).mono ?_
    rintro e w2 ⟨rfl, h2⟩
    rw [hL.out]
    have HP := HP.below h2
    have hv := hv.below h2
    have hu := hu.below h2
    have hB := bt_ hB h2
    obtain ⟨c0, c1, c2, c3, c4, c5⟩ := cells6 HP
    clear h2
    go_wp2_with fail
    refine (alive14 _).mono ?_
    rintro e w9 ⟨rfl, h⟩
    have hB := bt_ hB h
    clear h
    go_wp2
    go_ret
    exact ⟨rfl, hB⟩
set_option maxRecDepth 100000 in
set_option maxHeartbeats 3200000 in
theorem maskShifts_no (p : Pl) (hi : p.In) (h : ¬ p.Ok) (v u : Value) (d : List F) (zs : List Int) (w : World) (hv : Rb w v d) (hu : Ri w u zs) (hL : Lite p) (h1 : d.length ≤ 20) (h2 : zs.length ≤ 20) :
   Calls Try.prog 29 #[planV p, v, u] w fun e w' => e = .returned (.bool true) ∧ Below w.heap.size w w' := by
  replace hL := Lib.hid (decide_eq_true hL)
  have t1 : decide ((20 : Int) < (d.length : Int)) = false := decide_eq_false (by omega)
  have t2 : decide ((20 : Int) < (zs.length : Int)) = false := decide_eq_false (by omega)
  have HP := Blk.new w (planC p) 33
  have hB := below_alloc (Below.refl w.heap.size w) (.cells (planC p) 33)
  have hv := hv.below hB
  have hu := hu.below hB
  obtain ⟨Ad, cd, rfl, hcd, hrd⟩ := hv
  have hld := kb_len hrd
  have hv : Rb _ (.slice Ad d.length cd) d := ⟨Ad, cd, rfl, hcd, hrd⟩
  obtain ⟨Az, cz, rfl, hcz, hrz⟩ := hu
  have hlz := ri_len hrz
  have hu : Ri _ (.slice Az zs.length cz) zs := ⟨Az, cz, rfl, hcz, hrz⟩
  clear hrd hrz
  go_enter Try.func29, Try.ntmps29
  go_wp2_with fail
  generalize w.alloc (.cells (planC p) 33) = w1 at *
  obtain ⟨c0, c1, c2, c3, c4, c5⟩ := cells6 HP
  refine (light_c p _).mono ?_
  rintro e w2 ⟨rfl, h2⟩
  rw [hL.out]
  have HP := HP.below h2
  have hv := hv.below h2
  have hu := hu.below h2
  have hB := bt_ hB h2
  obtain ⟨c0, c1, c2, c3, c4, c5⟩ := cells6 HP
  clear h2
  go_wp2_with fail
  go_region_held3 (fun w' => w'.cell? ⟨w.heap.size, 0, none⟩ = some (.int .i64 p.N) ∧ w'.cell? ⟨w.heap.size, 1, none⟩ = some (.int .i64 p.T) ∧ w'.cell? ⟨w.heap.size, 2, none⟩ = some (.int .i64 p.L) ∧ w'.cell? ⟨w.heap.size, 3, none⟩ = some (.int .i64 p.W) ∧ w'.cell? ⟨w.heap.size, 4, none⟩ = some (.int .i64 p.S) ∧ w'.cell? ⟨w.heap.size, 5, none⟩ = some (.int .i64 p.R))
    (go_keep)
    (first
      | (go_at_call 38; refine (new_x _).mono ?_; rintro e w6 ⟨bF, rfl, hF, h6⟩; (repeat (first | replace h6 := buN h6 | replace h6 := bu h6)); have hv := hv.below h6; have hu := hu.below h6; (try replace h6 := bu h6); have HP := HP.below h6; obtain ⟨c0, c1, c2, c3, c4, c5⟩ := cells6 HP; have hB := bt_ hB h6)
      | (go_at_call 137; refine (mShift_no _ p h _ _ _).mono ?_; rintro e w6 ⟨rfl, h6⟩; (repeat (first | replace h6 := buN h6 | replace h6 := bu h6)); have hv := hv.below h6; have hu := hu.below h6; (try replace h6 := bu h6); have HP := HP.below h6; obtain ⟨c0, c1, c2, c3, c4, c5⟩ := cells6 HP; have hB := bt_ hB h6)
      | fail)
  go_wp2_with fail
  refine (rCheck14_no p hi h _ _ _).mono ?_
  rintro e w7 ⟨rfl, h7⟩
  have hB := bt_ hB h7
  go_wp2_with fail
  refine (alive14 _).mono ?_
  rintro e w9 ⟨rfl, h⟩
  have hB := bt_ hB h
  clear h
  go_wp2
  go_ret
  exact ⟨rfl, hB⟩
set_option maxRecDepth 100000 in
set_option maxHeartbeats 3200000 in
theorem maskShifts_bad (p : Pl) (h : p.Ok) (v u : Value) (d : List F) (zs : List Int) (w : World) (hv : Rb w v d) (hu : Ri w u zs) (hL : Lite p) (h1 : d.length ≤ 20) (h2 : zs.length ≤ 20) (ha : maE p d.length zs ≠ 0) :
   Calls Try.prog 29 #[planV p, v, u] w fun e w' => e = .returned (.bool true) ∧ Below w.heap.size w w' := by
  replace hL := Lib.hid (decide_eq_true hL)
  have t1 : decide ((20 : Int) < (d.length : Int)) = false := decide_eq_false (by omega)
  have t2 : decide ((20 : Int) < (zs.length : Int)) = false := decide_eq_false (by omega)
  have t9 : (maE p d.length zs != 0) = true := bne_iff_ne.2 ha
  replace ha := Lib.hid ha
  have HP := Blk.new w (planC p) 33
  have hB := below_alloc (Below.refl w.heap.size w) (.cells (planC p) 33)
  have hv := hv.below hB
  have hu := hu.below hB
  obtain ⟨Ad, cd, rfl, hcd, hrd⟩ := hv
  have hld := kb_len hrd
  have hv : Rb _ (.slice Ad d.length cd) d := ⟨Ad, cd, rfl, hcd, hrd⟩
  obtain ⟨Az, cz, rfl, hcz, hrz⟩ := hu
  have hlz := ri_len hrz
  have hu : Ri _ (.slice Az zs.length cz) zs := ⟨Az, cz, rfl, hcz, hrz⟩
  clear hrd hrz
  go_enter Try.func29, Try.ntmps29
  go_wp2_with fail
  generalize w.alloc (.cells (planC p) 33) = w1 at *
  obtain ⟨c0, c1, c2, c3, c4, c5⟩ := cells6 HP
  refine (light_c p _).mono ?_
  rintro e w2 ⟨rfl, h2⟩
  rw [hL.out]
  have HP := HP.below h2
  have hv := hv.below h2
  have hu := hu.below h2
  have hB := bt_ hB h2
  obtain ⟨c0, c1, c2, c3, c4, c5⟩ := cells6 HP
  clear h2
  go_wp2_with fail
  go_region_held3 (fun w' => w'.cell? ⟨w.heap.size, 0, none⟩ = some (.int .i64 p.N) ∧ w'.cell? ⟨w.heap.size, 1, none⟩ = some (.int .i64 p.T) ∧ w'.cell? ⟨w.heap.size, 2, none⟩ = some (.int .i64 p.L) ∧ w'.cell? ⟨w.heap.size, 3, none⟩ = some (.int .i64 p.W) ∧ w'.cell? ⟨w.heap.size, 4, none⟩ = some (.int .i64 p.S) ∧ w'.cell? ⟨w.heap.size, 5, none⟩ = some (.int .i64 p.R))
    (go_keep)
    (first
      | (go_at_call 38; refine (new_x _).mono ?_; rintro e w6 ⟨bF, rfl, hF, h6⟩; (repeat (first | replace h6 := buN h6 | replace h6 := bu h6)); have hv := hv.below h6; have hu := hu.below h6; (try replace h6 := bu h6); have HP := HP.below h6; obtain ⟨c0, c1, c2, c3, c4, c5⟩ := cells6 HP; have hB := bt_ hB h6)
      | (go_at_call 137; refine (mShift_bad _ p h _ _ d zs _ (by first | exact hv | exact hv.drew) (by first | exact hu | exact hu.drew) ha.out).mono ?_; rintro e w6 ⟨rfl, h6⟩; (repeat (first | replace h6 := buN h6 | replace h6 := bu h6)); have hv := hv.below h6; have hu := hu.below h6; (try replace h6 := bu h6); have HP := HP.below h6; obtain ⟨c0, c1, c2, c3, c4, c5⟩ := cells6 HP; have hB := bt_ hB h6)
      | fail)
  go_wp2_with fail
  refine (rCheck14_c p h _ _ d zs _ hv hu).mono ?_
  rintro e w7 ⟨rfl, h7⟩
  have hB := bt_ hB h7
  go_wp2_with fail
  refine (alive14 _).mono ?_
  rintro e w9 ⟨rfl, h⟩
  have hB := bt_ hB h
  clear h
  go_wp2
  go_ret
  exact ⟨rfl, hB⟩
set_option maxRecDepth 100000 in
set_option maxHeartbeats 3200000 in
theorem maskShifts_ok (p : Pl) (h : p.Ok) (hK : p.T + p.L < 255) (v u : Value) (d : List F) (zs : List Int) (w : World) (hv : Rb w v d) (hu : Ri w u zs) (hL : Lite p) (h1 : d.length ≤ 20) (h2 : zs.length ≤ 20) (ha : maE p d.length zs = 0) :
   Calls Try.prog 29 #[planV p, v, u] w fun e w' => e = .returned (.bool true) ∧ Below w.heap.size w w' := by
  replace hL := Lib.hid (decide_eq_true hL)
  have hz := Lib.hid (ma_zero ha)
  have hSec := Lib.hid (sh_secret p h hK d zs hz.out.2.1 hz.out.2.2.1 hz.out.2.2.2)
  have hZer := Lib.hid (sh_zero p h hK d zs hz.out.1 hz.out.2.1 hz.out.2.2.1 hz.out.2.2.2)
  have hdl : Hid ((secretsAt p).length = d.length) := Lib.hid (by rw [secrets_len]; have := hz.out.1; omega)
  have t1 : decide ((20 : Int) < (d.length : Int)) = false := decide_eq_false (by omega)
  have t2 : decide ((20 : Int) < (zs.length : Int)) = false := decide_eq_false (by omega)
  replace ha := Lib.hid ha
  have HP := Blk.new w (planC p) 33
  have hB := below_alloc (Below.refl w.heap.size w) (.cells (planC p) 33)
  have hv := hv.below hB
  have hu := hu.below hB
  obtain ⟨Ad, cd, rfl, hcd, hrd⟩ := hv
  have hld := kb_len hrd
  have hv : Rb _ (.slice Ad d.length cd) d := ⟨Ad, cd, rfl, hcd, hrd⟩
  obtain ⟨Az, cz, rfl, hcz, hrz⟩ := hu
  have hlz := ri_len hrz
  have hu : Ri _ (.slice Az zs.length cz) zs := ⟨Az, cz, rfl, hcz, hrz⟩
  clear hrd hrz
  go_enter Try.func29, Try.ntmps29
  go_wp2_with fail
  generalize w.alloc (.cells (planC p) 33) = w1 at *
  obtain ⟨c0, c1, c2, c3, c4, c5⟩ := cells6 HP
  refine (light_c p _).mono ?_
  rintro e w2 ⟨rfl, h2⟩
  rw [hL.out]
  have HP := HP.below h2
  have hv := hv.below h2
  have hu := hu.below h2
  have hB := bt_ hB h2
  obtain ⟨c0, c1, c2, c3, c4, c5⟩ := cells6 HP
  clear h2
  go_wp2_with fail
  go_region_held3 (fun w' => w'.cell? ⟨w.heap.size, 0, none⟩ = some (.int .i64 p.N) ∧ w'.cell? ⟨w.heap.size, 1, none⟩ = some (.int .i64 p.T) ∧ w'.cell? ⟨w.heap.size, 2, none⟩ = some (.int .i64 p.L) ∧ w'.cell? ⟨w.heap.size, 3, none⟩ = some (.int .i64 p.W) ∧ w'.cell? ⟨w.heap.size, 4, none⟩ = some (.int .i64 p.S) ∧ w'.cell? ⟨w.heap.size, 5, none⟩ = some (.int .i64 p.R))
    (go_keep)
    (first
      | (go_at_call 38; refine (new_x _).mono ?_; rintro e w6 ⟨bF, rfl, hF, h6⟩; (repeat (first | replace h6 := buN h6 | replace h6 := bu h6)); have hv := hv.below h6; have hu := hu.below h6; (try replace h6 := bu h6); have HP := HP.below h6; obtain ⟨c0, c1, c2, c3, c4, c5⟩ := cells6 HP; have hB := bt_ hB h6)
      | (go_at_call 137; refine (mShift_ok _ p h hK _ _ d zs _ (by first | exact hF | exact hF.drew) (by first | exact hv | exact hv.drew) (by first | exact hu | exact hu.drew) ha.out).mono ?_; rintro e w6 ⟨vZ, rfl, sZ, h6⟩; (repeat (first | replace h6 := buN h6 | replace h6 := bu h6)); have hv := hv.below h6; have hu := hu.below h6; (try replace h6 := bu h6); have HP := HP.below h6; obtain ⟨c0, c1, c2, c3, c4, c5⟩ := cells6 HP; have hB := bt_ hB h6)
      | fail)
  replace sZ := sZ.rk
  go_wp2_with fail
  refine (rCheck14_c p h _ _ d zs _ hv hu).mono ?_
  rintro e w7 ⟨rfl, h7⟩
  rw [ha.out]
  have hv := hv.below h7
  have hu := hu.below h7
  have sZ := sZ.below h7
  have HP := HP.below h7
  have hB := bt_ hB h7
  obtain ⟨c0, c1, c2, c3, c4, c5⟩ := cells6 HP
  go_wp2_with fail
  refine (rShift14_c p h hK _ _ d zs _ hv hu ha.out).mono ?_
  rintro e w8 ⟨vR, rfl, sR, h8⟩
  have hv := hv.below h8
  have hu := hu.below h8
  have sZ := sZ.below h8
  have HP := HP.below h8
  have hB := bt_ hB h8
  obtain ⟨c0, c1, c2, c3, c4, c5⟩ := cells6 HP
  go_wp2_with fail
  refine (rSame_c _ _ (shOf p d zs) (shOf p d zs) _ sZ sR.rk).mono ?_
  rintro e w9 ⟨rfl, h9⟩
  rw [decide_eq_true (rfl : shOf p d zs = shOf p d zs)]
  have h9 := h9.below
  have hv := hv.below h9
  have hu := hu.below h9
  have sZ := sZ.below h9
  have HP := HP.below h9
  have hB := bt_ hB h9
  obtain ⟨c0, c1, c2, c3, c4, c5⟩ := cells6 HP
  go_wp2_with fail
  refine (rSecrets_c p h _).mono ?_
  rintro e w10 ⟨vS, rfl, oS, h10⟩
  have hv := hv.below h10
  have hu := hu.below h10
  have sZ := sZ.below h10
  have hB := bt_ hB h10
  replace oS := oS.rk
  obtain ⟨AS, cS, rfl⟩ := rk_form oS
  rw [hdl.out] at oS ⊢
  clear h7 h8 h9 h10 sR HP c0 c1 c2 c3 c4 c5
  generalize shOf p d zs = sh at *
  go_wp2_with fail
  go_loopw [10, 11, 67] (fun _ _ i wr => ∃ k : Nat, k ≤ d.length ∧ i = .int .i64 k ∧ Below w10.heap.size w10 wr) (fun _ _ i _ => d.length - (intOf i).toNat)
  case atStart => exact ⟨0, by omega, rfl, Below.refl _ _⟩
  case round =>
    obtain ⟨k, hk, rfl, hb⟩ := hrel
    have hv := hv.below hb
    have sZ := sZ.below hb
    have oS := oS.below hb
    by_cases hlt : k < d.length
    · obtain ⟨ad, rfl, d0⟩ := kb_at (rk_C hv) k hlt
      obtain ⟨ad2, rfl, d1⟩ := kb_at (rk_C oS) k (by rw [hdl.out]; exact hlt)
      have hev := hSec.out k (by rw [hdl.out]; exact hlt)
      generalize (secretsAt p).getD k 0 = x at *
      generalize d.getD k 0 = y at *
      have t5 : (((F.ev x sh).n : Int) != (y.n : Int)) = false := by rw [hev]; simp
      replace hev := Lib.hid hev
      go_wp2_with fail
      go_quiet ((first | (go_at_call 76; exact qs (rEval_c _ sh x _ (sZ.drewN _))) | fail))
      go_wp2
      exact ⟨⟨k + 1, by omega, by go_num, pw_below_drewN hb _⟩, by simp [intOf]; try omega⟩
    · obtain rfl : k = d.length := by omega
      have hu := hu.below hb
      have hr := rk_C hu
      have hB := bt_ hB hb
      clear hv oS
      go_wp2_with fail
      go_loop [13, 83] (fun _ i => ∃ k : Nat, k ≤ zs.length ∧ i = .int .i64 k) (fun _ i => zs.length - (intOf i).toNat)
      case atStart => exact ⟨0, by omega, rfl⟩
      case round =>
        obtain ⟨k, hk, rfl⟩ := hrel
        by_cases hlt : k < zs.length
        · obtain ⟨ad, rfl, d0⟩ := ki_at hr k hlt
          have hev := hZer.out (zs.getD k 0) (by rw [List.getD_eq_getElem?_getD, List.getElem?_eq_getElem hlt]; exact List.getElem_mem hlt)
          generalize zs.getD k 0 = i at *
          have t5 : (((F.ev (point i) sh).n : Int) != 0) = false := by rw [hev]; rfl
          have hp := fun w => rPoint_c i w
          replace hev := Lib.hid hev
          generalize point i = x at *
          replace hp := Lib.hid hp
          go_wp2_with fail
          refine (hp.out _).mono ?_
          rintro e w_ ⟨rfl, rfl⟩
          go_wp2_with fail
          refine (rEval_c _ sh x _ sZ).mono ?_
          rintro e w_ ⟨rfl, rfl⟩
          go_wp2
          exact ⟨⟨k + 1, by omega, by go_num⟩, by simp [intOf]; try omega⟩
        · obtain rfl : k = zs.length := by omega
          go_wp2_with fail
          refine (alive14 _).mono ?_
          rintro e w9 ⟨rfl, h⟩
          have hB := bt_ hB h
          clear h
          go_wp2
          go_ret
          exact ⟨rfl, hB⟩
end Go.Proofs.Ytijeabhfddaoaaa
