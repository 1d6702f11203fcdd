/- The walk of MatrixInverts. -/
import Derived.Test.YtijeabhfddaoaaaL04
namespace Go.Proofs.Ytijeabhfddaoaaa
set_option linter.unusedVariables false
set_option linter.unusedSimpArgs false
open Go.RowKit Go.Proofs.YtijeabhfddaoaaaW.PrintWords Go.Proofs.Sh

theorem wid_allW {a : List (List F)} : wid a = (a.length : Int) ↔ allW (a.length : Int) a = true := by
  constructor
  · intro h
    exact allW_iff.2 (wid_rows h)
  · intro h
    by_cases h0 : a.length = 0
    · rw [h0, List.eq_nil_of_length_eq_zero h0]
      rfl
    · exact wid_all h0 (allW_iff.1 h)
theorem sq_of {a : List (List F)} (h : allW (a.length : Int) a = true) : F.Sq a.length a := ⟨rfl, fun r hr => by
  obtain ⟨k, hk, rfl⟩ := mem_getD hr
  exact allW_iff.1 h k hk⟩
set_option maxRecDepth 100000 in
set_option maxHeartbeats 6400000 in
theorem MatrixInverts_walk (w : World) (v : Value) (a : List (List F)) (hv : Rbb w v a) :
   Calls Try.prog 17 #[v] w fun e w' => e = .returned (.bool true) ∧ Below w.heap.size w w' := by
  have hB := Below.refl w.heap.size w
  have hfew := few_c v a w hv
  obtain ⟨A, c, rfl⟩ := rk_form hv
  by_cases h1 : fewM a = true
  · rw [h1] at hfew
    by_cases h2 : 5 < a.length
    · have t2 : decide ((5 : Int) < (a.length : Int)) = true := decide_eq_true (by omega)
      go_enter Try.func17, Try.ntmps17
      go_wp2_with fail
      refine hfew.mono ?_
      rintro e w1 ⟨rfl, rfl⟩
      go_wp2_with fail
      refine (alive04_c _).mono ?_
      rintro e w9 ⟨rfl, h9⟩
      have hB9 := bt_ hB h9
      clear hB h9
      go_wp2
      go_ret
      exact ⟨rfl, hB9⟩
    · have t2 : decide ((5 : Int) < (a.length : Int)) = false := decide_eq_false (by omega)
      by_cases h3 : wid a = (a.length : Int)
      · have hall := wid_allW.1 h3
        have hsq := sq_of hall
        have t3 : (wid a != (a.length : Int)) = false := by rw [h3]; exact bne_self_eq_false _
        have hwd := fun W h => Lib.hid (rWidth_c (.slice A a.length c) a W h)
        have hdt := fun W h => Lib.hid (rDet_c a.length (.slice A a.length c) a W (by omega) hsq h)
        by_cases h4 : F.detN a.length a = 0
        · have hgs := Lib.hid ((gs_detN hsq).2 h4)
          rw [h4] at hdt
          have t5 : ((((0 : F).n : Nat) : Int) == 0) = true := rfl
          clear h4 h3 hsq
          replace hall := Lib.hid hall
          go_enter Try.func17, Try.ntmps17
          go_wp2_with fail
          refine hfew.mono ?_
          rintro e w1 ⟨rfl, rfl⟩
          go_wp2_with fail
          refine (new_x _).mono ?_
          rintro e w2 ⟨b, rfl, hF, h2⟩
          replace hv := hv.below h2
          replace hB := bt_ hB h2
          clear h2
          go_wp2_with fail
          refine (mInv_ok b _ a _ hF hv (by omega) hall.out).mono ?_
          rintro e w3 ⟨hor, h3⟩
          replace hv := hv.below h3
          replace hB := bt_ hB h3
          clear h3
          rcases hor with ⟨_, rfl⟩ | ⟨q, z, hq, _⟩
          · go_wp2_with fail
            refine (hwd _ hv).out.mono ?_
            rintro e w4 ⟨rfl, h4⟩
            replace hv := hv.below h4.below
            replace hB := bt_ hB h4.below
            clear h4
            go_wp2_with fail
            refine (hdt _ hv).out.mono ?_
            rintro e w5 ⟨rfl, h5⟩
            replace hB := bt_ hB h5
            clear h5 hwd hdt
            go_wp2_with fail
            refine (alive04_c _).mono ?_
            rintro e w9 ⟨rfl, h9⟩
            have hB9 := bt_ hB h9
            clear hB h9
            go_wp2
            go_ret
            exact ⟨rfl, hB9⟩
          · rw [hgs.out] at hq
            cases hq
        · have hgs := Lib.hid (fun h => h4 ((gs_detN hsq).1 h))
          have t5 : (((F.detN a.length a).n : Int) == 0) = false := n_beq_zero h4
          clear h4 h3
          replace hsq := Lib.hid hsq
          replace hall := Lib.hid hall
          have hun := Lib.hid (fun W => rUnit_c a.length (by omega) W)
          go_enter Try.func17, Try.ntmps17
          go_wp2_with fail
          refine hfew.mono ?_
          rintro e w1 ⟨rfl, rfl⟩
          go_wp2_with fail
          refine (new_x _).mono ?_
          rintro e w2 ⟨b, rfl, hF, h2⟩
          replace hv := hv.below h2
          replace hB := bt_ hB h2
          clear h2
          go_wp2_with fail
          refine (mInv_ok b _ a _ hF hv (by omega) hall.out).mono ?_
          rintro e w3 ⟨hor, h3⟩
          replace hv := hv.below h3
          replace hB := bt_ hB h3
          clear h3
          rcases hor with ⟨hn, _⟩ | ⟨q, z, hq, rfl, hz⟩
          · exact absurd hn hgs.out
          · have hR := Lib.hid (inv_right hsq.out hq)
            have hL := Lib.hid (inv_left hsq.out hq)
            have hwm := Lib.hid (wid_mat a.length q.2)
            have hws := Lib.hid (wid_allW.2 hall.out)
            have hrm := Lib.hid (F.mat_sq a.length q.2)
            have hra := Lib.hid (allW_iff.1 hall.out)
            generalize F.mat a.length q.2 = m at *
            have hrm2 : Hid (∀ j, j < m.length → (m.getD j []).length = a.length) := Lib.hid (fun j hj => hrm.out.2 _ (getD_mem hj))
            obtain ⟨Am, cm, rfl⟩ := rk_form hz
            go_wp2_with fail
            refine (hwd _ hv).out.mono ?_
            rintro e w4 ⟨rfl, h4⟩
            replace hv := hv.below h4.below
            replace hz := hz.below h4.below
            replace hB := bt_ hB h4.below
            clear h4
            go_wp2_with fail
            refine (hdt _ hv).out.mono ?_
            rintro e w5 ⟨rfl, h5⟩
            replace hv := hv.below h5
            replace hz := hz.below h5
            replace hB := bt_ hB h5
            clear h5 hwd hdt
            go_wp2_with fail
            refine (rMul4_c _ _ a m a.length _ hv hz (by omega) (by rw [hrm.out.1]; omega) hwm.out (by omega) hrm2.out).mono ?_
            rintro e w6 ⟨hor, h6⟩
            rcases hor with ⟨⟨k, hk, hne⟩, _⟩ | ⟨_, z1, rfl, hz1⟩
            · exact absurd (by rw [hra.out k hk, hrm.out.1]) hne
            rw [hR.out] at hz1
            replace hz1 := hz1.rk
            obtain ⟨A1, c1, rfl⟩ := rk_form hz1
            replace hv := hv.below h6
            replace hz := hz.below h6
            replace hB := bt_ hB h6
            clear h6
            go_wp2_with fail
            refine (rMul4_c _ _ m a a.length _ hz hv (by rw [hrm.out.1]; omega) (by omega) hws.out (by omega) hra.out).mono ?_
            rintro e w7 ⟨hor, h7⟩
            rcases hor with ⟨⟨k, hk, hne⟩, _⟩ | ⟨_, z2, rfl, hz2⟩
            · exact absurd (hrm2.out k hk) hne
            rw [hL.out] at hz2
            replace hz2 := hz2.rk
            obtain ⟨A2, c2, rfl⟩ := rk_form hz2
            replace hz1 := hz1.below h7
            replace hB := bt_ hB h7
            clear h7 hz hv
            go_wp2_with fail
            refine (hun.out _).mono ?_
            rintro e w8 ⟨z3, rfl, hz3, h8⟩
            replace hz3 := hz3.rk
            obtain ⟨A3, c3, rfl⟩ := rk_form hz3
            replace hz1 := hz1.below h8
            replace hz2 := hz2.below h8
            replace hB := bt_ hB h8
            clear h8
            go_wp2_with fail
            refine (rSameR_c _ _ _ _ _ hz1 hz3).mono ?_
            rintro e w10 ⟨rfl, h9⟩
            rw [decide_eq_true (rfl : F.mat a.length F.one_ = F.mat a.length F.one_)]
            replace hz2 := hz2.below h9.below
            replace hB := bt_ hB h9.below
            clear h9 hz1 hz3
            go_wp2_with fail
            refine (hun.out _).mono ?_
            rintro e w11 ⟨z4, rfl, hz4, h8⟩
            replace hz4 := hz4.rk
            obtain ⟨A4, c4, rfl⟩ := rk_form hz4
            replace hz2 := hz2.below h8
            replace hB := bt_ hB h8
            clear h8
            go_wp2_with fail
            refine (rSameR_c _ _ _ _ _ hz2 hz4).mono ?_
            rintro e w12 ⟨rfl, h9⟩
            rw [decide_eq_true (rfl : F.mat a.length F.one_ = F.mat a.length F.one_)]
            replace hB := bt_ hB h9.below
            clear h9 hz2 hz4
            go_wp2_with fail
            refine (alive04_c _).mono ?_
            rintro e w9 ⟨rfl, h9⟩
            have hB9 := bt_ hB h9
            clear hB h9
            go_wp2
            go_ret
            exact ⟨rfl, hB9⟩
      · have t3 : (wid a != (a.length : Int)) = true := bne_iff_ne.2 h3
        have hno : Hid (allW (a.length : Int) a = false) := Lib.hid (eq_false_of_ne_true (fun h => h3 (wid_allW.2 h)))
        have hwd := fun W h => Lib.hid (rWidth_c (.slice A a.length c) a W h)
        clear h3
        go_enter Try.func17, Try.ntmps17
        go_wp2_with fail
        refine hfew.mono ?_
        rintro e w1 ⟨rfl, rfl⟩
        go_wp2_with fail
        refine (new_x _).mono ?_
        rintro e w2 ⟨b, rfl, hF, h2⟩
        replace hv := hv.below h2
        replace hB := bt_ hB h2
        clear h2
        go_wp2_with fail
        refine (mInv_no b _ a _ hv (.inr hno.out)).mono ?_
        rintro e w3 ⟨rfl, h3⟩
        replace hv := hv.below h3
        replace hB := bt_ hB h3
        clear h3
        go_wp2_with fail
        refine (hwd _ hv).out.mono ?_
        rintro e w4 ⟨rfl, h4⟩
        replace hB := bt_ hB h4.below
        clear h4 hwd
        go_wp2_with fail
        refine (alive04_c _).mono ?_
        rintro e w9 ⟨rfl, h9⟩
        have hB9 := bt_ hB h9
        clear hB h9
        go_wp2
        go_ret
        exact ⟨rfl, hB9⟩
  · rw [eq_false_of_ne_true h1] at hfew
    go_enter Try.func17, Try.ntmps17
    go_wp2_with fail
    refine hfew.mono ?_
    rintro e w1 ⟨rfl, rfl⟩
    go_wp2_with fail
    refine (alive04_c _).mono ?_
    rintro e w9 ⟨rfl, h9⟩
    have hB9 := bt_ hB h9
    clear hB h9
    go_wp2
    go_ret
    exact ⟨rfl, hB9⟩
end Go.Proofs.Ytijeabhfddaoaaa
