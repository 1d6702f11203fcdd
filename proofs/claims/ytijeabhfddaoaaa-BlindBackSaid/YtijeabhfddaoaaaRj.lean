/- The walk of rebuild.Agree: taken. -/
import Derived.Test.YtijeabhfddaoaaaRi
import Derived.Test.YtijeabhfddaoaaaLa
namespace Go.Proofs.Ytijeabhfddaoaaa
set_option linter.unusedVariables false
open Go.RowKit Go.Proofs.YtijeabhfddaoaaaW.PrintWords Go.Proofs.Sh

set_option maxRecDepth 100000 in
set_option maxHeartbeats 3200000 in
theorem rbAgree_ok (b : Nat) (p : Pl) (h : p.Ok) (n : Nat) (hn : n ≤ 240) (K : Nat) (eK : p.T + p.L = K) (hK : K < 255) (v u : Value) (who : List Int) (sh : List (List F)) (w : World) (hF : IsField w b) (hv : Ri w v who) (hu : Rbb w u sh) (hwl : who.length ≤ 1000) (hc : chE p n who sh = 0) :
   Calls Try.prog 149 #[fp b, planV p, .int .i64 (n : Int), v, u] w fun e w' => ∃ bb : Bool, e = .returned (.bool bb) ∧ (bb = true ↔ agr ((who.take K).map point) (who.map point) K sh (F.nS p.L.toNat n)) ∧ Below w.heap.size w w' := by
  obtain ⟨g1, g2, g3, g4, g5⟩ := chE_ok h hn hc
  have hck := fun W h1 h2 => Lib.hid (by have := rbCheck_c p h n v u who sh W h1 h2; rw [hc] at this; exact this)
  have hNd := Lib.hid (map_take_nodup h K g1 g2)
  have hK2 : K ≤ who.length := by omega
  have hxl : Hid (((who.take K).map point).length = K) := Lib.hid (by rw [List.length_map, List.length_take]; omega)
  have hwl1 : Hid ((who.take K).length < 1000000) := Lib.hid (by rw [List.length_take]; omega)
  obtain ⟨S, hS⟩ : ∃ S, S = F.nS p.L.toNat n := ⟨_, rfl⟩
  have hSb : S ≤ 240 := by rw [hS]; exact Nat.le_trans (F.nS_le_len _ n (by have := h.l; omega)) hn
  rw [← hS] at g5 ⊢
  have hka : Hid (∀ i, i < sh.length → (sh.getD i []).length = S) := Lib.hid (fun i hi => g5 _ (by rw [List.getD_eq_getElem?_getD, List.getElem?_eq_getElem hi]; exact List.getElem_mem hi))
  have hkt : Hid (∀ j, j < S → ∀ r ∈ sh.take K, j < r.length) := Lib.hid (fun j hj r hr => by rw [g5 r (List.mem_of_mem_take hr)]; exact hj)
  have hstl : Hid ((sh.take K).length ≤ 1000) := Lib.hid (by rw [List.length_take]; omega)
  have hshl : sh.length = who.length := g4
  replace g4 := Lib.hid g4
  clear g1 g2 g3 g5 hc hS
  have HP := Blk.new w (planC p) 33
  have hB := below_alloc (Below.refl w.heap.size w) (.cells (planC p) 33)
  replace hv := hv.below hB
  replace hu := hu.below hB
  replace hF := hF.below hB
  have hKs : K ≤ sh.length := by omega
  replace hshl := Lib.hid hshl
  go_enter Try.func149, Try.ntmps149
  go_wp2_with fail
  refine (hck _ hv hu).out.mono ?_
  rintro e w1 ⟨rfl, h1⟩
  replace HP := HP.below h1
  replace hv := hv.below h1
  replace hu := hu.below h1
  replace hF := hF.below h1
  replace hB := bt_ hB h1
  clear h1 hck
  obtain ⟨c0, c1, c2, c3, c4, c5⟩ := cells6 HP
  go_wp2_with fail
  refine (need_yes p h _).mono ?_
  rintro e w2 ⟨rfl, h2⟩
  rw [eK]
  replace HP := HP.below h2
  replace hv := hv.below h2
  replace hu := hu.below h2
  replace hF := hF.below h2
  replace hB := bt_ hB h2
  clear h2 c0 c1 c2 c3 c4 c5
  obtain ⟨A, c, rfl, hcc, hr⟩ := hv
  have hkc : (K : Int) ≤ (c : Int) := by omega
  have hk0 : (0 : Int) ≤ (K : Int) := by omega
  have hw' : Ri w2 (.slice A K c) (who.take K) := ⟨A, c, by rw [List.length_take, Nat.min_eq_left hK2], by rw [List.length_take]; omega, Kd.C_take hr hK2⟩
  replace eK := Lib.hid eK
  go_wp2_with fail
  refine (points_c _ _ _ hw' hwl1.out).mono ?_
  rintro e w3 ⟨vP, rfl, sP, h3⟩
  replace sP := sP.rk
  replace hB := bt_ hB h3
  replace hu := hu.below h3
  replace hF := hF.below h3
  have hv : Ri w3 (.slice A who.length c) who := Rk.below ⟨A, c, rfl, hcc, hr⟩ h3
  clear h3 hw' hr HP
  generalize hxs : (who.take K).map point = xs at *
  replace hxs := Lib.hid hxs
  obtain ⟨B, d, rfl⟩ := rk_form hu
  have hut : Rbb w3 (.slice B K d) (sh.take K) := by
    obtain ⟨B', d', e, hd', hs'⟩ := hu
    cases e
    exact ⟨B, d, by rw [List.length_take, Nat.min_eq_left hKs], by rw [List.length_take]; omega, Kd.C_take hs' hKs⟩
  have hkd : (K : Int) ≤ (d : Int) := by have := rk_cap hu; omega
  go_wp2_with fail
  go_loopw [13, 14, 15, 16, 17] (fun i _ _ _ _ wr => ∃ k : Nat, K ≤ k ∧ k ≤ who.length ∧ i = .int .i64 k ∧ Hid (∀ t, K ≤ t → t < k → ∀ j, j < S → dot (F.wts xs ((who.map point).getD t 0)) (F.colOf (sh.take K) j) = (sh.getD t []).getD j 0) ∧ Below w3.heap.size w3 wr) (fun i _ _ _ _ _ => who.length - (intOf i).toNat)
  case atStart => exact ⟨K, Nat.le_refl _, hK2, rfl, Lib.hid (fun t h1 h2 => by omega), Below.refl _ _⟩
  case round =>
    obtain ⟨k, hkK, hk, rfl, hJ, hD⟩ := hrel
    by_cases hlt : k < who.length
    · obtain ⟨aw, ew, dw⟩ := ki_at (rk_C (hv.below hD)) k hlt
      cases ew
      have hpt : Hid ((who.map point).getD k 0 = point (who.getD k 0)) := Lib.hid (map_getD who point 0 0 k hlt)
      generalize who.getD k 0 = i0 at *
      go_wp2_with fail
      refine (point_c i0 _).mono ?_
      rintro e w_ ⟨rfl, rfl⟩
      generalize hx : point i0 = x at *
      replace hx := Lib.hid hx
      go_wp2_with fail
      refine (weights_yes _ _ xs x _ (hF.below hD) (sP.below hD) hNd.out (by rw [hxl.out]; exact hK)).mono ?_
      rintro e w5 ⟨vW, rfl, sW, h5⟩
      replace sW := sW.rk
      replace hD := bt_ hD h5
      clear h5 dw
      have hks : k < sh.length := by have := hshl.out; omega
      obtain ⟨ab, u2, eb, d2, hu2⟩ := kbb_at (rk_C hu) k hks
      cases eb
      have hrl := hka.out k hks
      have hgr : Hid (∃ r, sh.getD k [] = r) := Lib.hid ⟨_, rfl⟩
      generalize hr : sh.getD k [] = r at *
      replace hr := Lib.hid hr
      obtain ⟨A2, c2', rfl⟩ := rk_form hu2
      rw [hrl] at d2
      have e2 := pw_cell_below hD d2
      go_wp2_with fail
      go_loopw [16, 17, 53] (fun _ _ i wr2 => ∃ q : Nat, q ≤ S ∧ i = .int .i64 q ∧ Hid (∀ j, j < q → dot (F.wts xs x) (F.colOf (sh.take K) j) = r.getD j 0) ∧ Below w3.heap.size w3 wr2 ∧ Below w5.heap.size w5 wr2) (fun _ _ i _ => S - (intOf i).toNat)
      case atStart => exact ⟨0, by omega, rfl, Lib.hid (fun j hj => by omega), hD, Below.refl _ _⟩
      case round =>
        clear hD e2
        obtain ⟨q, hq, rfl, hI, hD, hE⟩ := hrel
        by_cases hlt2 : q < S
        · obtain ⟨ad3, e3, d3⟩ := kb_at (rk_C hu2) q (by rw [hrl]; exact hlt2)
          cases e3
          have d3 := pw_cell_below hD d3
          obtain ⟨z, hz⟩ : ∃ z, r.getD q 0 = z := ⟨_, rfl⟩
          rw [hz] at d3
          replace hz := Lib.hid hz
          go_wp2_with fail
          refine (bValues_c _ _ q _ (hut.below hD) hstl.out (hkt.out q hlt2)).mono ?_
          rintro e w6 ⟨vV, rfl, sV, h6⟩
          replace sV := sV.rk
          replace hD := bt_ hD h6
          replace hE := bt_ hE h6
          clear h6 d3
          go_wp2_with fail
          refine (fDot_c b vW vV (F.wts xs x) (F.colOf (sh.take K) q) _ (hF.below hD) (sW.below hE) sV).mono ?_
          rintro e w7 ⟨rfl, h7⟩
          replace hD := bt_ hD h7.below
          replace hE := bt_ hE h7.below
          clear h7 sV
          generalize hy : dot (F.wts xs x) (F.colOf (sh.take K) q) = y at *
          replace hy := Lib.hid hy
          by_cases e : y = z
          · have t5 : ((y.n : Int) != (z.n : Int)) = false := by rw [e]; simp
            have hI2 : Hid (∀ j, j < q + 1 → dot (F.wts xs x) (F.colOf (sh.take K) j) = r.getD j 0) := Lib.hid (fun j hj => by
              by_cases g : j = q
              · subst g; rw [hy.out, hz.out, e]
              · exact hI.out j (by omega))
            clear e
            go_wp2
            exact ⟨⟨q + 1, by omega, by go_num, hI2, hD, hE⟩, by simp [intOf]; try omega⟩
          · have t5 : ((y.n : Int) != (z.n : Int)) = true := by rw [bne_iff_ne]; intro h; exact e (F.n_inj (by omega))
            have hno : Hid (¬ agr xs (who.map point) K sh S) := Lib.hid (fun ha => e (by
              have := ha k hkK (by rw [List.length_map]; exact hlt) q hlt2
              rw [hpt.out, hy.out, hr.out, hz.out] at this
              exact this))
            clear e
            go_wp2
            go_ret
            rw [hxs.out]
            exact ⟨false, rfl, ⟨fun e => (by cases e), fun e => (hno.out e).elim⟩, bt_ hB hD⟩
        · obtain rfl : q = S := by omega
          have hJ2 : Hid (∀ t, K ≤ t → t < k + 1 → ∀ j, j < q → dot (F.wts xs ((who.map point).getD t 0)) (F.colOf (sh.take K) j) = (sh.getD t []).getD j 0) := Lib.hid (fun t h1 h2 j hj => by
            by_cases g : t = k
            · subst g; rw [hpt.out, hr.out]; exact hI.out j hj
            · exact hJ.out t h1 (by omega) j hj)
          go_wp2
          exact ⟨⟨k + 1, by omega, by omega, by go_num, hJ2, hD⟩, by simp [intOf]; try omega⟩
    · obtain rfl : k = who.length := by omega
      go_wp2
      go_ret
      rw [hxs.out]
      exact ⟨true, rfl, ⟨fun _ t h1 h2 j hj => hJ.out t h1 (by rw [List.length_map] at h2; exact h2) j hj, fun _ => rfl⟩, bt_ hB hD⟩
end Go.Proofs.Ytijeabhfddaoaaa
