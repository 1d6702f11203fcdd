/- The walk of MatrixPowers. -/
import Derived.Test.YtijeabhfddaoaaaL04
import Derived.Test.YtijeabhfddaoaaaLa
import Derived.Test.YtijeabhfddaoaaaR08b
namespace Go.Proofs.Ytijeabhfddaoaaa
set_option linter.unusedVariables false
set_option linter.unusedSimpArgs false
open Go.RowKit Go.Proofs.YtijeabhfddaoaaaW.PrintWords Go.Proofs.Sh

theorem pow_at {xs : List F} {n i : Nat} (hi : i < xs.length) : (powM xs n).getD i [] = rw_ n (F.pw (xs.getD i 0)) := by
  unfold powM
  rw [map_at xs _ 0 [] i hi]
set_option maxRecDepth 100000 in
set_option maxHeartbeats 6400000 in
theorem MatrixPowers_walk (w : World) (v : Value) (xs : List F) (hv : Rb w v xs) (u : Value) (ys : List F) (hu : Rb w u ys) :
   Calls Try.prog 27 #[v, u] w fun e w' => e = .returned (.bool true) ∧ Below w.heap.size w w' := by
  have hB := Below.refl w.heap.size w
  obtain ⟨A, c, rfl⟩ := rk_form hv
  obtain ⟨B, d, rfl⟩ := rk_form hu
  by_cases h1 : 7 < xs.length
  · have t1 : decide ((7 : Int) < (xs.length : Int)) = true := decide_eq_true (by omega)
    go_enter Try.func27, Try.ntmps27
    go_wp2_with fail
    refine (alive04_c _).mono ?_
    rintro e w9 ⟨rfl, h9⟩
    have hB9 := bt_ hB h9
    clear hB h9
    go_wp2
    go_ret
    exact ⟨rfl, hB9⟩
  have t1 : decide ((7 : Int) < (xs.length : Int)) = false := decide_eq_false (by omega)
  by_cases h2 : 7 < ys.length
  · have t2 : decide ((7 : Int) < (ys.length : Int)) = true := decide_eq_true (by omega)
    go_enter Try.func27, Try.ntmps27
    go_wp2_with fail
    refine (alive04_c _).mono ?_
    rintro e w9 ⟨rfl, h9⟩
    have hB9 := bt_ hB h9
    clear hB h9
    go_wp2
    go_ret
    exact ⟨rfl, hB9⟩
  have t2 : decide ((7 : Int) < (ys.length : Int)) = false := decide_eq_false (by omega)
  have hsq := Lib.hid (powM_sq xs)
  have hpa := Lib.hid (fun i (hi : i < xs.length) => pow_at (n := xs.length) hi)
  have hgs := Lib.hid (pow_gs (xs := xs))
  have hth := Lib.hid (fun q hn hq => pow_thr (xs := xs) (ys := ys) (q := q) hn (by omega) hq)
  have hpw := fun V b (hF : IsField V b) h => Lib.hid (mPowers_c b (.slice A xs.length c) xs xs.length V hF h (by omega) (by omega))
  go_enter Try.func27, Try.ntmps27
  go_wp2_with fail
  refine (new_x _).mono ?_
  rintro e w1 ⟨b, rfl, hF, h1⟩
  replace hv := hv.below h1
  replace hu := hu.below h1
  replace hB := bt_ hB h1
  clear h1
  go_wp2_with fail
  refine (hpw _ _ hF hv).out.mono ?_
  rintro e w2 ⟨z, rfl, hz, h2⟩
  replace hz := hz.rk
  replace hv := hv.below h2
  replace hu := hu.below h2
  replace hF := hF.below h2
  replace hB := bt_ hB h2
  clear h2 hpw
  obtain ⟨Az, cz, rfl⟩ := rk_form hz
  generalize powM xs xs.length = a at *
  have hal := Lib.hid hsq.out.1
  go_wp2_with fail
  go_loopw [7, 32] (fun _ i wr => ∃ i' : Nat, i' ≤ a.length ∧ i = .int .i64 i' ∧ Below w2.heap.size w2 wr) (fun _ i _ => a.length - (intOf i).toNat)
  case atStart => exact ⟨0, by omega, rfl, Below.refl _ _⟩
  case round =>
    obtain ⟨i, hi, rfl, hD⟩ := hrel
    by_cases hlt : i < a.length
    · obtain ⟨ad, u1, e1, d1, hu1⟩ := kbb_at (rk_C hz) i hlt
      have hil : i < xs.length := by rw [← hal.out]; exact hlt
      rw [hpa.out i hil] at hu1
      obtain ⟨ad2, e2, d2⟩ := kb_at (rk_C hv) i hil
      subst e1
      subst e2
      obtain ⟨A1, c1, rfl⟩ := rk_form hu1
      rw [rw_len] at d1 hu1
      have d3 := pw_cell_below hD d1
      generalize hx : xs.getD i 0 = x at *
      replace hx := Lib.hid hx
      go_wp2_with fail
      go_loopw [8, 40] (fun _ k ws => ∃ k' : Nat, k' ≤ xs.length ∧ k = .int .i64 k' ∧ Below w2.heap.size w2 ws) (fun _ k _ => xs.length - (intOf k).toNat)
      case atStart => exact ⟨0, by omega, rfl, hD⟩
      case round =>
        clear hD d3
        obtain ⟨k, hk, rfl, hD⟩ := hrel
        by_cases hlt2 : k < xs.length
        · obtain ⟨ad3, e3, d4⟩ := kb_at (rk_C hu1) k (by rw [rw_len]; exact hlt2)
          rw [rw_at _ hlt2] at d4
          subst e3
          have t4 : ((xs.length : Int) != (xs.length : Int)) = false := bne_self_eq_false _
          have t5 : (((F.pw x k).n : Int) != ((F.pw x k).n : Int)) = false := bne_self_eq_false _
          have d5 := pw_cell_below hD d1
          have d6 := pw_cell_below hD d2
          have d7 := pw_cell_below hD d4
          have hkl : Hid ((k : Int) < 9223372036854775808) := Lib.hid (by omega)
          go_wp2_with fail
          go_quiet ((first | (go_at_call 135; exact qs (rPow_c x k (k : Int) rfl hkl.out _)) | fail))
          go_wp2
          exact ⟨⟨k + 1, by omega, by go_num, by first | exact hD | exact below_drew hD | exact pw_below_drewN hD _⟩, by simp [intOf]; try omega⟩
        · obtain rfl : k = xs.length := by omega
          go_wp2
          exact ⟨⟨i + 1, by omega, by go_num, hD⟩, by simp [intOf]; try omega⟩
    · obtain rfl : i = a.length := by omega
      replace hv := hv.below hD
      replace hu := hu.below hD
      replace hz := hz.below hD
      replace hF := hF.below hD
      replace hB := bt_ hB hD
      clear hD hpa
      have hall : Hid (allW (a.length : Int) a = true) := Lib.hid (allW_iff.2 (fun j hj => by rw [hal.out]; exact hsq.out.2 _ (getD_mem hj)))
      have t6 : ((a.length : Int) != (xs.length : Int)) = false := by rw [hal.out]; exact bne_self_eq_false _
      have hinv := Lib.hid (mInv_ok b _ a wr hF hz (by rw [hal.out]; omega) hall.out)
      go_wp2_with fail
      refine hinv.out.mono ?_
      rintro e w3 ⟨hor, h3⟩
      rw [hal.out] at hor
      replace hv := hv.below h3
      replace hu := hu.below h3
      replace hF := hF.below h3
      replace hB := bt_ hB h3
      clear h3 hinv
      rcases hor with ⟨hn, rfl⟩ | ⟨q, zb, hq, rfl, hb⟩
      · have hnd : Hid (¬ xs.Nodup) := Lib.hid (fun h => (hgs.out.2 h) hn)
        go_wp2_with fail
        refine (rUnlike_c _ xs _ hv).mono ?_
        rintro e w4 ⟨rfl, h4⟩
        rw [decide_eq_false hnd.out]
        replace hB := bt_ hB h4.below
        clear h4
        go_wp2_with fail
        refine (alive04_c _).mono ?_
        rintro e w9 ⟨rfl, h9⟩
        have hB9 := bt_ hB h9
        clear hB h9
        go_wp2
        go_ret
        exact ⟨rfl, hB9⟩
      · have hnd : Hid xs.Nodup := Lib.hid (hgs.out.1 (by rw [hq]; simp))
        have hth2 := Lib.hid (hth.out q hnd.out hq)
        have hms := Lib.hid (F.mat_sq xs.length q.2)
        clear hgs hth hq
        generalize F.mat xs.length q.2 = m at *
        obtain ⟨Ab, cb, rfl⟩ := rk_form hb
        go_wp2_with fail
        refine (rUnlike_c _ xs _ hv).mono ?_
        rintro e w4 ⟨rfl, h4⟩
        rw [decide_eq_true hnd.out]
        replace hv := hv.below h4.below
        replace hu := hu.below h4.below
        replace hb := hb.below h4.below
        replace hF := hF.below h4.below
        replace hB := bt_ hB h4.below
        clear h4
        by_cases hl : xs.length = ys.length
        · have t7 : ((xs.length : Int) != (ys.length : Int)) = false := by rw [hl]; exact bne_self_eq_false _
          have hap := Lib.hid (mApply4_ok b _ _ m ys w4 hF hb hu (allW_iff.2 (fun j hj => by rw [hms.out.2 _ (getD_mem hj)]; exact hl)) (by rw [hms.out.1]; omega))
          replace hl := Lib.hid hl
          go_wp2_with fail
          refine hap.out.mono ?_
          rintro e w5 ⟨zp, rfl, hp, h5⟩
          rw [hth2.out] at hp
          replace hp := hp.rk
          obtain ⟨Ap, cp, rfl⟩ := rk_form hp
          replace hv := hv.below h5
          replace hu := hu.below h5
          replace hF := hF.below h5
          replace hB := bt_ hB h5
          clear h5 hap
          go_wp2_with fail
          refine (through_yes b _ _ xs ys _ hF hv hu hl.out hnd.out (by omega)).mono ?_
          rintro e w6 ⟨zq, rfl, hq, h6⟩
          replace hq := hq.rk
          obtain ⟨Aq, cq, rfl⟩ := rk_form hq
          replace hp := hp.below h6
          replace hB := bt_ hB h6
          clear h6
          generalize F.thr xs ys xs.length = t at *
          go_wp2_with fail
          refine (rSame_c _ _ _ _ _ hp hq).mono ?_
          rintro e w7 ⟨rfl, h7⟩
          rw [decide_eq_true (rfl : t = t)]
          replace hB := bt_ hB h7.below
          clear h7 hp hq
          go_wp2_with fail
          refine (alive04_c _).mono ?_
          rintro e w9 ⟨rfl, h9⟩
          have hB9 := bt_ hB h9
          clear hB h9
          go_wp2
          go_ret
          exact ⟨rfl, hB9⟩
        · have t7 : ((xs.length : Int) != (ys.length : Int)) = true := bne_iff_ne.2 (by omega)
          go_wp2_with fail
          refine (alive04_c _).mono ?_
          rintro e w9 ⟨rfl, h9⟩
          have hB9 := bt_ hB h9
          clear hB h9
          go_wp2
          go_ret
          exact ⟨rfl, hB9⟩
end Go.Proofs.Ytijeabhfddaoaaa
