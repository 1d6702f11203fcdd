/- The walk of MatrixMuls. -/
import Derived.Test.YtijeabhfddaoaaaL04
namespace Go.Proofs.Ytijeabhfddaoaaa
set_option linter.unusedVariables false
set_option linter.unusedSimpArgs false
open Go.RowKit Go.Proofs.YtijeabhfddaoaaaW.PrintWords Go.Proofs.Sh

theorem wid_two (a : List (List F)) : (∃ W : Nat, wid a = (W : Int)) ∨ wid a = -1 := by
  unfold wid
  split
  · exact .inl ⟨0, rfl⟩
  · split
    · exact .inl ⟨_, rfl⟩
    · exact .inr rfl
theorem wid_bad {b : List (List F)} (h : wid b = -1) : b.length ≠ 0 ∧ allW ((b.getD 0 []).length : Int) b = false := by
  have h0 : b.length ≠ 0 := fun e => by
    rw [List.eq_nil_of_length_eq_zero e, wid_nil] at h
    cases h
  refine ⟨h0, eq_false_of_ne_true (fun h1 => ?_)⟩
  rw [wid_all h0 (allW_iff.1 h1)] at h
  omega
theorem allW_snoc (n : Int) (a : List (List F)) (i : Nat) (hi : i < a.length) : allW n (a.take (i + 1)) = (allW n (a.take i) && !(badW n (a.getD i []))) := by
  unfold allW
  rw [take_snoc' a i [] hi, List.any_append, Bool.not_or]
  simp
/-- Do the sizes fit? -/
def fitM (a b : List (List F)) : Bool := decide (0 ≤ wid b) && allW (b.length : Int) a
def prodM (a b : List (List F)) : List (List F) := if fitM a b then mulR a b else []
theorem nil_bb (w : World) : Rbb w (.slice none 0 0) [] := (show Obb w w (.slice none 0 0) [] from Own.nil _ _ _ _).rk
theorem nil_b (w : World) : Rb w (.slice none 0 0) [] := (show Ob w w (.slice none 0 0) [] from Own.nil _ _ _ _).rk
theorem mMul_any (b9 : Nat) (v u : Value) (a b : List (List F)) (w : World) (hF : IsField w b9) (hv : Rbb w v a) (hu : Rbb w u b) (ha : a.length ≤ 1000) (hb : b.length ≤ 1000) (hr : ∀ r ∈ b, r.length ≤ 1000) :
   Calls Try.prog 121 #[fp b9, v, u] w fun e w' => ∃ z, e = .returned (.tuple #[z, .bool (fitM a b)]) ∧ Rbb w' z (prodM a b) ∧ Below w.heap.size w w' := by
  unfold prodM
  rcases wid_two b with ⟨W, hW⟩ | hW
  · by_cases h : allW (b.length : Int) a = true
    · have hf : fitM a b = true := by unfold fitM; rw [hW, h]; simp
      rw [hf, if_pos rfl]
      have h0 := wid_first hW
      have hrb : ∀ j, j < b.length → (b.getD j []).length = (b.getD 0 []).length := fun j hj => by rw [wid_rows hW j hj, h0]
      refine (mMul4_ok b9 v u a b w hF hv hu h ha hb hrb ?_).mono ?_
      · by_cases e : b.length = 0
        · rw [List.eq_nil_of_length_eq_zero e]
          exact Nat.zero_le _
        · exact hr _ (getD_mem (by omega))
      · rintro e w' ⟨z, rfl, hz, h9⟩
        exact ⟨z, rfl, by rw [← mulC_mulR hW (allW_iff.1 h)]; exact hz.rk, h9⟩
    · have h := eq_false_of_ne_true h
      have hf : fitM a b = false := by unfold fitM; rw [h, Bool.and_false]
      rw [hf]
      refine (mMul4_no (fp b9) v u a b w hv hu (.inl h)).mono ?_
      rintro e w' ⟨rfl, h9⟩
      exact ⟨_, rfl, nil_bb _, h9⟩
  · have hf : fitM a b = false := by unfold fitM; rw [hW]; rfl
    rw [hf]
    refine (mMul4_no (fp b9) v u a b w hv hu (.inr (wid_bad hW))).mono ?_
    rintro e w' ⟨rfl, h9⟩
    exact ⟨_, rfl, nil_bb _, h9⟩
theorem rMul_any (v u : Value) (a b : List (List F)) (w : World) (hv : Rbb w v a) (hu : Rbb w u b) (ha : a.length ≤ 1000) (hb : b.length ≤ 1000) (hr : ∀ r ∈ b, r.length ≤ 1000) :
   Calls Try.prog 106 #[v, u] w fun e w' => ∃ z, e = .returned (.tuple #[z, .bool (fitM a b)]) ∧ Rbb w' z (prodM a b) ∧ Below w.heap.size w w' := by
  unfold prodM
  rcases wid_two b with ⟨W, hW⟩ | hW
  · have hW9 : W ≤ 1000 := by
      rw [← wid_first hW]
      by_cases e : b.length = 0
      · rw [List.eq_nil_of_length_eq_zero e]
        exact Nat.zero_le _
      · exact hr _ (getD_mem (by omega))
    refine (rMul4_c v u a b W w hv hu ha hb hW hW9 (wid_rows hW)).mono ?_
    rintro e w' ⟨⟨⟨k, hk, hne⟩, rfl⟩ | ⟨hall, z, rfl, hz⟩, h9⟩
    · have hf : fitM a b = false := by
        unfold fitM
        rw [eq_false_of_ne_true (fun h => hne (allW_iff.1 h k hk)), Bool.and_false]
      rw [hf]
      exact ⟨_, rfl, nil_bb _, h9⟩
    · have hf : fitM a b = true := by unfold fitM; rw [hW, allW_iff.2 hall]; simp
      rw [hf]
      exact ⟨z, rfl, hz.rk, h9⟩
  · have hf : fitM a b = false := by unfold fitM; rw [hW]; rfl
    rw [hf]
    refine (rMul4_wid v u a b w hv hu (by omega)).mono ?_
    rintro e w' ⟨rfl, h9⟩
    exact ⟨_, rfl, nil_bb _, h9.below⟩
theorem prod_unit {a : List (List F)} {n : Nat} (h : ∀ j, j < a.length → (a.getD j []).length = n) : fitM a (F.mat n F.one_) = true ∧ prodM a (F.mat n F.one_) = a := by
  have hf : fitM a (F.mat n F.one_) = true := by
    unfold fitM
    rw [wid_mat, (F.mat_sq n F.one_).1, allW_iff.2 h]
    simp
  exact ⟨hf, by unfold prodM; rw [hf, if_pos rfl]; exact mul_unit h⟩
set_option maxRecDepth 100000 in
set_option maxHeartbeats 1600000 in
theorem MatrixMuls_walk (w : World) (va : Value) (a : List (List F)) (hv : Rbb w va a) (vb : Value) (b : List (List F)) (hb : Rbb w vb b) (vl : Value) (l : List F) (hu : Rb w vl l) :
   Calls Try.prog 23 #[va, vb, vl] w fun e w' => e = .returned (.bool true) ∧ Below w.heap.size w w' := by
  have hB := Below.refl w.heap.size w
  have hfa := few_c va a w hv
  have hfb := few_c vb b w hb
  obtain ⟨A, c, rfl⟩ := rk_form hv
  obtain ⟨B, d, rfl⟩ := rk_form hb
  obtain ⟨C, x, rfl⟩ := rk_form hu
  by_cases h1 : fewM a = true
  · rw [h1] at hfa
    by_cases h2 : fewM b = true
    · rw [h2] at hfb
      by_cases h3 : 8 < l.length
      · have t3 : decide ((8 : Int) < (l.length : Int)) = true := decide_eq_true (by omega)
        go_enter Try.func23, Try.ntmps23
        go_wp2_with fail
        refine hfa.mono ?_
        rintro e w1 ⟨rfl, rfl⟩
        go_wp2_with fail
        refine hfb.mono ?_
        rintro e w1 ⟨rfl, rfl⟩
        go_wp2_with fail
        refine (alive04_c _).mono ?_
        rintro e w9 ⟨rfl, h9⟩
        have hB9 := bt_ hB h9
        clear hB h9
        go_wp2
        go_ret
        exact ⟨rfl, hB9⟩
      · have t3 : decide ((8 : Int) < (l.length : Int)) = false := decide_eq_false (by omega)
        obtain ⟨ha8, hra⟩ := fewM_iff.1 h1
        obtain ⟨hb8, hrb⟩ := fewM_iff.1 h2
        replace hra := Lib.hid hra
        replace hrb := Lib.hid hrb
        have hmu := Lib.hid (fun W => mUnit_c l.length (by omega) W)
        have hru := Lib.hid (fun W => rUnit_c l.length (by omega) W)
        clear h1 h2
        go_enter Try.func23, Try.ntmps23
        go_wp2_with fail
        refine hfa.mono ?_
        rintro e w1 ⟨rfl, rfl⟩
        go_wp2_with fail
        refine hfb.mono ?_
        rintro e w1 ⟨rfl, rfl⟩
        clear hfa hfb
        go_wp2_with fail
        refine (new_x _).mono ?_
        rintro e w2 ⟨b9, rfl, hF, h2⟩
        replace hv := hv.below h2
        replace hb := hb.below h2
        replace hu := hu.below h2
        replace hB := bt_ hB h2
        clear h2
        go_wp2_with fail
        refine (mMul_any b9 _ _ a b _ hF hv hb (by omega) (by omega) (fun r hr => by have := hrb.out r hr; omega)).mono ?_
        rintro e w3 ⟨z1, rfl, hz1, h3⟩
        obtain ⟨A1, c1, rfl⟩ := rk_form hz1
        replace hv := hv.below h3
        replace hb := hb.below h3
        replace hu := hu.below h3
        replace hF := hF.below h3
        replace hB := bt_ hB h3
        clear h3
        go_wp2_with fail
        refine (rMul_any _ _ a b _ hv hb (by omega) (by omega) (fun r hr => by have := hrb.out r hr; omega)).mono ?_
        rintro e w4 ⟨z2, rfl, hz2, h4⟩
        obtain ⟨A2, c2, rfl⟩ := rk_form hz2
        replace hv := hv.below h4
        replace hz1 := hz1.below h4
        replace hu := hu.below h4
        replace hF := hF.below h4
        replace hB := bt_ hB h4
        clear h4 hb hrb
        generalize fitM a b = t at *
        generalize prodM a b = p at *
        have t4 : (t != t) = false := bne_self_eq_false _
        by_cases hall : allW (l.length : Int) a = true
        · have hap := Lib.hid (mApply4_ok b9 _ _ a l _ hF hv hu hall (by omega))
          have hXl : (a.map fun r => dot r l).length = a.length := List.length_map _
          have hXi := Lib.hid (fun i (hi : i < a.length) => map_at a (fun r => dot r l) [] 0 i hi)
          generalize (a.map fun r => dot r l) = X at hap hXl hXi
          replace hXl := Lib.hid hXl
          replace hall := Lib.hid hall
          go_wp2_with fail
          refine hap.out.mono ?_
          rintro e w5 ⟨z3, rfl, hz3, h5⟩
          replace hz3 := hz3.rk
          obtain ⟨A3, c3, rfl⟩ := rk_form hz3
          replace hv := hv.below h5
          replace hz1 := hz1.below h5
          replace hz2 := hz2.below h5
          replace hu := hu.below h5
          replace hF := hF.below h5
          replace hB := bt_ hB h5
          clear h5 hap
          go_wp2_with fail
          refine (rSameR_c _ _ _ _ _ hz1 hz2).mono ?_
          rintro e w6 ⟨rfl, h6⟩
          rw [decide_eq_true (rfl : p = p)]
          replace hv := hv.below h6.below
          replace hz3 := hz3.below h6.below
          replace hu := hu.below h6.below
          replace hF := hF.below h6.below
          replace hB := bt_ hB h6.below
          clear h6 hz1 hz2 t4
          go_wp2_with fail
          go_loopw [14, 66] (fun s i wr => ∃ i' : Nat, i' ≤ a.length ∧ s = .bool true ∧ i = .int .i64 i' ∧ Below w6.heap.size w6 wr) (fun _ i _ => a.length - (intOf i).toNat)
          case atStart => exact ⟨0, by omega, rfl, rfl, Below.refl _ _⟩
          case round =>
            obtain ⟨i, hi, rfl, rfl, hD⟩ := hrel
            by_cases hlt : i < a.length
            · obtain ⟨ad, u1, e1, d1, hu1⟩ := kbb_at (rk_C hv) i hlt
              subst e1
              obtain ⟨ad2, e2, d2⟩ := kb_at (rk_C hz3) i (by rw [hXl.out]; exact hlt)
              subst e2
              rw [hXi.out i hlt] at d2
              have hrl := allW_iff.1 hall.out i hlt
              have t5 : (((a.getD i []).length : Int) == (l.length : Int)) = true := beq_iff_eq.2 (by rw [hrl])
              have t6 : (((dot (a.getD i []) l).n : Int) != ((dot (a.getD i []) l).n : Int)) = false := bne_self_eq_false _
              have t7 : (i : Int) < (X.length : Int) := by rw [hXl.out]; omega
              have hu2 := hu1.below hD
              have hl2 := hu.below hD
              obtain ⟨A5, c5, rfl⟩ := rk_form hu1
              have d3 := pw_cell_below hD d1
              have d4 := pw_cell_below hD d2
              clear hrl hu1 d1 d2
              generalize a.getD i [] = r at *
              go_wp2_with fail
              go_quiet ((first | (go_at_call 53; exact qd (rDot_c _ _ r l _ (hu2.drewN _) (hl2.drewN _))) | fail))
              go_wp2
              exact ⟨⟨i + 1, by omega, rfl, by go_num, by first | exact hD | exact below_drew hD | exact pw_below_drewN hD _⟩, by simp [intOf]; try omega⟩
            · obtain rfl : i = a.length := by omega
              have t8 : ((X.length : Int) != (a.length : Int)) = false := by rw [hXl.out]; exact bne_self_eq_false _
              replace hv := hv.below hD
              replace hF := hF.below hD
              replace hB := bt_ hB hD
              clear hD hz3 hu
              have hwd := Lib.hid (fun V h => rWidth_c (.slice A a.length c) a V h)
              rcases wid_two a with ⟨N, hN⟩ | hN
              · by_cases h0 : a.length = 0
                · have t11 : decide ((0 : Int) < (a.length : Int)) = false := decide_eq_false (by omega)
                  have t12 : ¬ 0 < a.length := by omega
                  have t10 : decide ((0 : Int) ≤ (N : Int)) = true := decide_eq_true (by omega)
                  rw [hN] at hwd
                  clear h0
                  go_wp2_with fail
                  refine (hwd.out _ hv).mono ?_
                  rintro e w10 ⟨rfl, h10⟩
                  replace hB := bt_ hB h10.below
                  clear h10 hv hwd
                  go_wp2_with fail
                  refine (hmu.out _).mono ?_
                  rintro e w11 ⟨gu, us, rfl, hRu, h11⟩
                  replace hRu := hRu.reads (by omega)
                  rw [show (List.range l.length).map (fun i => rw_ l.length (F.one_ i)) = F.mat l.length F.one_ from rfl] at hRu
                  replace hB := bt_ hB h11
                  clear h11
                  go_wp2_with fail
                  refine (hru.out _).mono ?_
                  rintro e w12 ⟨zu, rfl, hzu, h12⟩
                  replace hzu := hzu.rk
                  obtain ⟨Au, cu, rfl⟩ := rk_form hzu
                  replace hRu := hRu.below h12
                  replace hB := bt_ hB h12
                  clear h12
                  go_wp2_with fail
                  refine (rSameR_c _ _ _ _ _ hRu hzu).mono ?_
                  rintro e w13 ⟨rfl, h13⟩
                  rw [decide_eq_true (rfl : F.mat l.length F.one_ = F.mat l.length F.one_)]
                  replace hB := bt_ hB h13.below
                  clear h13 hRu hzu
                  go_wp2_with fail
                  refine (alive04_c _).mono ?_
                  rintro e w9 ⟨rfl, h9⟩
                  have hB9 := bt_ hB h9
                  clear hB h9
                  go_wp2
                  go_ret
                  exact ⟨rfl, hB9⟩
                · have t11 : decide ((0 : Int) < (a.length : Int)) = true := decide_eq_true (by omega)
                  have t12 : 0 < a.length := by omega
                  have t10 : decide ((0 : Int) ≤ (N : Int)) = true := decide_eq_true (by omega)
                  have hN8 : N ≤ 8 := by rw [← wid_first hN]; exact hra.out _ (getD_mem (by omega))
                  have hpu := Lib.hid (prod_unit (wid_rows hN))
                  have hmn := Lib.hid (fun W => mUnit_c N (by omega) W)
                  have hal1 : a.length ≤ 1000 := by omega
                  have hms := Lib.hid (F.mat_sq N F.one_)
                  rw [hN] at hwd
                  clear h0
                  go_wp2_with fail
                  refine (hwd.out _ hv).mono ?_
                  rintro e w10 ⟨rfl, h10⟩
                  replace hv := hv.below h10.below
                  replace hF := hF.below h10.below
                  replace hB := bt_ hB h10.below
                  clear h10 hwd
                  go_wp2_with fail
                  refine (hmn.out _).mono ?_
                  rintro e w20 ⟨gn, ns, rfl, hRn, h20⟩
                  replace hRn := hRn.reads (by omega)
                  rw [show (List.range N).map (fun i => rw_ N (F.one_ i)) = F.mat N F.one_ from rfl] at hRn
                  replace hv := hv.below h20
                  replace hF := hF.below h20
                  replace hB := bt_ hB h20
                  clear h20 hmn
                  have hmm := Lib.hid (mMul_any b9 _ _ a (F.mat N F.one_) w20 hF hv hRn hal1 (by rw [hms.out.1]; omega) (fun r hr => by rw [hms.out.2 r hr]; omega))
                  rw [hpu.out.1, hpu.out.2] at hmm
                  go_wp2_with fail
                  refine hmm.out.mono ?_
                  rintro e w21 ⟨zy, rfl, hzy, h21⟩
                  obtain ⟨Ay, cy, rfl⟩ := rk_form hzy
                  replace hv := hv.below h21
                  replace hB := bt_ hB h21
                  clear h21 hmm hRn
                  go_wp2_with fail
                  refine (rSameR_c _ _ _ _ _ hzy hv).mono ?_
                  rintro e w22 ⟨rfl, h22⟩
                  rw [decide_eq_true (rfl : a = a)]
                  replace hB := bt_ hB h22.below
                  clear h22 hzy hv
                  go_wp2_with fail
                  refine (hmu.out _).mono ?_
                  rintro e w11 ⟨gu, us, rfl, hRu, h11⟩
                  replace hRu := hRu.reads (by omega)
                  rw [show (List.range l.length).map (fun i => rw_ l.length (F.one_ i)) = F.mat l.length F.one_ from rfl] at hRu
                  replace hB := bt_ hB h11
                  clear h11
                  go_wp2_with fail
                  refine (hru.out _).mono ?_
                  rintro e w12 ⟨zu, rfl, hzu, h12⟩
                  replace hzu := hzu.rk
                  obtain ⟨Au, cu, rfl⟩ := rk_form hzu
                  replace hRu := hRu.below h12
                  replace hB := bt_ hB h12
                  clear h12
                  go_wp2_with fail
                  refine (rSameR_c _ _ _ _ _ hRu hzu).mono ?_
                  rintro e w13 ⟨rfl, h13⟩
                  rw [decide_eq_true (rfl : F.mat l.length F.one_ = F.mat l.length F.one_)]
                  replace hB := bt_ hB h13.below
                  clear h13 hRu hzu
                  go_wp2_with fail
                  refine (alive04_c _).mono ?_
                  rintro e w9 ⟨rfl, h9⟩
                  have hB9 := bt_ hB h9
                  clear hB h9
                  go_wp2
                  go_ret
                  exact ⟨rfl, hB9⟩
              · have t10 : decide ((0 : Int) ≤ (-1 : Int)) = false := rfl
                rw [hN] at hwd
                go_wp2_with fail
                refine (hwd.out _ hv).mono ?_
                rintro e w10 ⟨rfl, h10⟩
                replace hB := bt_ hB h10.below
                clear h10 hv hwd
                go_wp2_with fail
                refine (hmu.out _).mono ?_
                rintro e w11 ⟨gu, us, rfl, hRu, h11⟩
                replace hRu := hRu.reads (by omega)
                rw [show (List.range l.length).map (fun i => rw_ l.length (F.one_ i)) = F.mat l.length F.one_ from rfl] at hRu
                replace hB := bt_ hB h11
                clear h11
                go_wp2_with fail
                refine (hru.out _).mono ?_
                rintro e w12 ⟨zu, rfl, hzu, h12⟩
                replace hzu := hzu.rk
                obtain ⟨Au, cu, rfl⟩ := rk_form hzu
                replace hRu := hRu.below h12
                replace hB := bt_ hB h12
                clear h12
                go_wp2_with fail
                refine (rSameR_c _ _ _ _ _ hRu hzu).mono ?_
                rintro e w13 ⟨rfl, h13⟩
                rw [decide_eq_true (rfl : F.mat l.length F.one_ = F.mat l.length F.one_)]
                replace hB := bt_ hB h13.below
                clear h13 hRu hzu
                go_wp2_with fail
                refine (alive04_c _).mono ?_
                rintro e w9 ⟨rfl, h9⟩
                have hB9 := bt_ hB h9
                clear hB h9
                go_wp2
                go_ret
                exact ⟨rfl, hB9⟩
        · have hall := eq_false_of_ne_true hall
          have hap := Lib.hid (mApply4_no (fp b9) _ _ a l _ hv hu hall)
          replace hall := Lib.hid hall
          go_wp2_with fail
          refine hap.out.mono ?_
          rintro e w5 ⟨rfl, h5⟩
          replace hv := hv.below h5
          replace hz1 := hz1.below h5
          replace hz2 := hz2.below h5
          replace hF := hF.below h5
          replace hB := bt_ hB h5
          clear h5 hap
          go_wp2_with fail
          refine (rSameR_c _ _ _ _ _ hz1 hz2).mono ?_
          rintro e w6 ⟨rfl, h6⟩
          rw [decide_eq_true (rfl : p = p)]
          replace hv := hv.below h6.below
          replace hF := hF.below h6.below
          replace hB := bt_ hB h6.below
          clear h6 hz1 hz2 t4 hu
          go_wp2_with fail
          go_loopw [14, 66] (fun s i wr => ∃ i' : Nat, i' ≤ a.length ∧ s = .bool (allW (l.length : Int) (a.take i')) ∧ i = .int .i64 i' ∧ Below w6.heap.size w6 wr) (fun _ i _ => a.length - (intOf i).toNat)
          case atStart => exact ⟨0, by omega, rfl, rfl, Below.refl _ _⟩
          case round =>
            obtain ⟨i, hi, rfl, rfl, hD⟩ := hrel
            by_cases hlt : i < a.length
            · obtain ⟨ad, u1, e1, d1, hu1⟩ := kbb_at (rk_C hv) i hlt
              subst e1
              obtain ⟨A5, c5, rfl⟩ := rk_form hu1
              have d3 := pw_cell_below hD d1
              have hsn := Lib.hid (allW_snoc (l.length : Int) a i hlt)
              clear hu1 d1
              generalize a.getD i [] = r at *
              cases hβ : allW (l.length : Int) (a.take i) with
              | false =>
                rw [hβ, Bool.false_and] at hsn
                clear hβ
                go_wp2_with fail
                go_quiet (fail)
                go_wp2
                exact ⟨⟨i + 1, by omega, by rw [hsn.out], by go_num, by first | exact hD | exact below_drew hD | exact pw_below_drewN hD _⟩, by simp [intOf]; try omega⟩
              | true =>
                rw [hβ, Bool.true_and] at hsn
                clear hβ
                by_cases hq : r.length = l.length
                · have t5 : ((r.length : Int) == (l.length : Int)) = true := beq_iff_eq.2 (by rw [hq])
                  have t6 : badW (l.length : Int) r = false := by unfold badW; rw [hq]; exact bne_self_eq_false _
                  rw [t6] at hsn
                  clear t6 hq
                  go_wp2_with fail
                  go_quiet (fail)
                  go_wp2
                  exact ⟨⟨i + 1, by omega, by rw [hsn.out]; rfl, by go_num, by first | exact hD | exact below_drew hD | exact pw_below_drewN hD _⟩, by simp [intOf]; try omega⟩
                · have t5 : ((r.length : Int) == (l.length : Int)) = false := beq_eq_false_iff_ne.2 (by omega)
                  have t6 : badW (l.length : Int) r = true := by unfold badW; exact bne_iff_ne.2 (by omega)
                  rw [t6] at hsn
                  clear t6 hq
                  go_wp2_with fail
                  go_quiet (fail)
                  go_wp2
                  exact ⟨⟨i + 1, by omega, by rw [hsn.out]; rfl, by go_num, by first | exact hD | exact below_drew hD | exact pw_below_drewN hD _⟩, by simp [intOf]; try omega⟩
            · obtain rfl : i = a.length := by omega
              rw [List.take_length, hall.out]
              replace hv := hv.below hD
              replace hF := hF.below hD
              replace hB := bt_ hB hD
              clear hD
              have hwd := Lib.hid (fun V h => rWidth_c (.slice A a.length c) a V h)
              rcases wid_two a with ⟨N, hN⟩ | hN
              · by_cases h0 : a.length = 0
                · have t11 : decide ((0 : Int) < (a.length : Int)) = false := decide_eq_false (by omega)
                  have t12 : ¬ 0 < a.length := by omega
                  have t10 : decide ((0 : Int) ≤ (N : Int)) = true := decide_eq_true (by omega)
                  rw [hN] at hwd
                  clear h0
                  go_wp2_with fail
                  refine (hwd.out _ hv).mono ?_
                  rintro e w10 ⟨rfl, h10⟩
                  replace hB := bt_ hB h10.below
                  clear h10 hv hwd
                  go_wp2_with fail
                  refine (hmu.out _).mono ?_
                  rintro e w11 ⟨gu, us, rfl, hRu, h11⟩
                  replace hRu := hRu.reads (by omega)
                  rw [show (List.range l.length).map (fun i => rw_ l.length (F.one_ i)) = F.mat l.length F.one_ from rfl] at hRu
                  replace hB := bt_ hB h11
                  clear h11
                  go_wp2_with fail
                  refine (hru.out _).mono ?_
                  rintro e w12 ⟨zu, rfl, hzu, h12⟩
                  replace hzu := hzu.rk
                  obtain ⟨Au, cu, rfl⟩ := rk_form hzu
                  replace hRu := hRu.below h12
                  replace hB := bt_ hB h12
                  clear h12
                  go_wp2_with fail
                  refine (rSameR_c _ _ _ _ _ hRu hzu).mono ?_
                  rintro e w13 ⟨rfl, h13⟩
                  rw [decide_eq_true (rfl : F.mat l.length F.one_ = F.mat l.length F.one_)]
                  replace hB := bt_ hB h13.below
                  clear h13 hRu hzu
                  go_wp2_with fail
                  refine (alive04_c _).mono ?_
                  rintro e w9 ⟨rfl, h9⟩
                  have hB9 := bt_ hB h9
                  clear hB h9
                  go_wp2
                  go_ret
                  exact ⟨rfl, hB9⟩
                · have t11 : decide ((0 : Int) < (a.length : Int)) = true := decide_eq_true (by omega)
                  have t12 : 0 < a.length := by omega
                  have t10 : decide ((0 : Int) ≤ (N : Int)) = true := decide_eq_true (by omega)
                  have hN8 : N ≤ 8 := by rw [← wid_first hN]; exact hra.out _ (getD_mem (by omega))
                  have hpu := Lib.hid (prod_unit (wid_rows hN))
                  have hmn := Lib.hid (fun W => mUnit_c N (by omega) W)
                  have hal1 : a.length ≤ 1000 := by omega
                  have hms := Lib.hid (F.mat_sq N F.one_)
                  rw [hN] at hwd
                  clear h0
                  go_wp2_with fail
                  refine (hwd.out _ hv).mono ?_
                  rintro e w10 ⟨rfl, h10⟩
                  replace hv := hv.below h10.below
                  replace hF := hF.below h10.below
                  replace hB := bt_ hB h10.below
                  clear h10 hwd
                  go_wp2_with fail
                  refine (hmn.out _).mono ?_
                  rintro e w20 ⟨gn, ns, rfl, hRn, h20⟩
                  replace hRn := hRn.reads (by omega)
                  rw [show (List.range N).map (fun i => rw_ N (F.one_ i)) = F.mat N F.one_ from rfl] at hRn
                  replace hv := hv.below h20
                  replace hF := hF.below h20
                  replace hB := bt_ hB h20
                  clear h20 hmn
                  have hmm := Lib.hid (mMul_any b9 _ _ a (F.mat N F.one_) w20 hF hv hRn hal1 (by rw [hms.out.1]; omega) (fun r hr => by rw [hms.out.2 r hr]; omega))
                  rw [hpu.out.1, hpu.out.2] at hmm
                  go_wp2_with fail
                  refine hmm.out.mono ?_
                  rintro e w21 ⟨zy, rfl, hzy, h21⟩
                  obtain ⟨Ay, cy, rfl⟩ := rk_form hzy
                  replace hv := hv.below h21
                  replace hB := bt_ hB h21
                  clear h21 hmm hRn
                  go_wp2_with fail
                  refine (rSameR_c _ _ _ _ _ hzy hv).mono ?_
                  rintro e w22 ⟨rfl, h22⟩
                  rw [decide_eq_true (rfl : a = a)]
                  replace hB := bt_ hB h22.below
                  clear h22 hzy hv
                  go_wp2_with fail
                  refine (hmu.out _).mono ?_
                  rintro e w11 ⟨gu, us, rfl, hRu, h11⟩
                  replace hRu := hRu.reads (by omega)
                  rw [show (List.range l.length).map (fun i => rw_ l.length (F.one_ i)) = F.mat l.length F.one_ from rfl] at hRu
                  replace hB := bt_ hB h11
                  clear h11
                  go_wp2_with fail
                  refine (hru.out _).mono ?_
                  rintro e w12 ⟨zu, rfl, hzu, h12⟩
                  replace hzu := hzu.rk
                  obtain ⟨Au, cu, rfl⟩ := rk_form hzu
                  replace hRu := hRu.below h12
                  replace hB := bt_ hB h12
                  clear h12
                  go_wp2_with fail
                  refine (rSameR_c _ _ _ _ _ hRu hzu).mono ?_
                  rintro e w13 ⟨rfl, h13⟩
                  rw [decide_eq_true (rfl : F.mat l.length F.one_ = F.mat l.length F.one_)]
                  replace hB := bt_ hB h13.below
                  clear h13 hRu hzu
                  go_wp2_with fail
                  refine (alive04_c _).mono ?_
                  rintro e w9 ⟨rfl, h9⟩
                  have hB9 := bt_ hB h9
                  clear hB h9
                  go_wp2
                  go_ret
                  exact ⟨rfl, hB9⟩
              · have t10 : decide ((0 : Int) ≤ (-1 : Int)) = false := rfl
                rw [hN] at hwd
                go_wp2_with fail
                refine (hwd.out _ hv).mono ?_
                rintro e w10 ⟨rfl, h10⟩
                replace hB := bt_ hB h10.below
                clear h10 hv hwd
                go_wp2_with fail
                refine (hmu.out _).mono ?_
                rintro e w11 ⟨gu, us, rfl, hRu, h11⟩
                replace hRu := hRu.reads (by omega)
                rw [show (List.range l.length).map (fun i => rw_ l.length (F.one_ i)) = F.mat l.length F.one_ from rfl] at hRu
                replace hB := bt_ hB h11
                clear h11
                go_wp2_with fail
                refine (hru.out _).mono ?_
                rintro e w12 ⟨zu, rfl, hzu, h12⟩
                replace hzu := hzu.rk
                obtain ⟨Au, cu, rfl⟩ := rk_form hzu
                replace hRu := hRu.below h12
                replace hB := bt_ hB h12
                clear h12
                go_wp2_with fail
                refine (rSameR_c _ _ _ _ _ hRu hzu).mono ?_
                rintro e w13 ⟨rfl, h13⟩
                rw [decide_eq_true (rfl : F.mat l.length F.one_ = F.mat l.length F.one_)]
                replace hB := bt_ hB h13.below
                clear h13 hRu hzu
                go_wp2_with fail
                refine (alive04_c _).mono ?_
                rintro e w9 ⟨rfl, h9⟩
                have hB9 := bt_ hB h9
                clear hB h9
                go_wp2
                go_ret
                exact ⟨rfl, hB9⟩
    · rw [eq_false_of_ne_true h2] at hfb
      go_enter Try.func23, Try.ntmps23
      go_wp2_with fail
      refine hfa.mono ?_
      rintro e w1 ⟨rfl, rfl⟩
      go_wp2_with fail
      refine hfb.mono ?_
      rintro e w1 ⟨rfl, rfl⟩
      go_wp2_with fail
      refine (alive04_c _).mono ?_
      rintro e w9 ⟨rfl, h9⟩
      have hB9 := bt_ hB h9
      clear hB h9
      go_wp2
      go_ret
      exact ⟨rfl, hB9⟩
  · rw [eq_false_of_ne_true h1] at hfa
    go_enter Try.func23, Try.ntmps23
    go_wp2_with fail
    refine hfa.mono ?_
    rintro e w1 ⟨rfl, rfl⟩
    go_wp2_with fail
    refine (alive04_c _).mono ?_
    rintro e w9 ⟨rfl, h9⟩
    have hB9 := bt_ hB h9
    clear hB h9
    go_wp2
    go_ret
    exact ⟨rfl, hB9⟩
end Go.Proofs.Ytijeabhfddaoaaa
