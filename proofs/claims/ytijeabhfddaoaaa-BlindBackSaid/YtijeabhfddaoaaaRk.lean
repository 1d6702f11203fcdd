/- The walk of rebuild.Blob: taken. -/
import Derived.Test.YtijeabhfddaoaaaRj
namespace Go.Proofs.Ytijeabhfddaoaaa
set_option linter.unusedVariables false
open Go.RowKit Go.Proofs.YtijeabhfddaoaaaW.PrintWords Go.Proofs.Sh

set_option maxRecDepth 100000 in
set_option maxHeartbeats 3200000 in
theorem rbBlob_ok (b : Nat) (p : Pl) (h : p.Ok) (n : Nat) (hn : n ≤ 240) (K : Nat) (eK : p.T + p.L = K) (hK : K < 255) (v u : Value) (who : List Int) (sh : List (List F)) (w : World) (hF : IsField w b) (hv : Ri w v who) (hu : Rbb w u sh) (hwl : who.length ≤ 1000) (hc : chE p n who sh = 0) :
   Calls Try.prog 148 #[fp b, planV p, .int .i64 (n : Int), v, u] w fun e w' => ∃ z, e = .returned (.tuple #[z, .int .i64 0]) ∧ Ob w w' z (F.joinOf p.L.toNat (rowsOf ((who.take K).map point) (secretsAt p) (sh.take K) (F.nS p.L.toNat n)) n) ∧ Below w.heap.size w w' := by
  obtain ⟨g1, g2, g3, g4, g5⟩ := chE_ok h hn hc
  have hck := fun W h1 h2 => Lib.hid (by have := rbCheck_c p h n v u who sh W h1 h2; rw [hc] at this; exact this)
  have hNd := Lib.hid (map_take_nodup h K g1 g2)
  have hK2 : K ≤ who.length := by omega
  have hxl : Hid (((who.take K).map point).length = K) := Lib.hid (by rw [List.length_map, List.length_take]; omega)
  have hwl1 : Hid ((who.take K).length < 1000000) := Lib.hid (by rw [List.length_take]; omega)
  obtain ⟨S, hS⟩ : ∃ S, S = F.nS p.L.toNat n := ⟨_, rfl⟩
  have hStr := fun W => Lib.hid (by have := stripes_yes p h n W; rw [stripes_nat h n hn, ← hS] at this; exact this)
  have hSn := Lib.hid hS
  have hLL : 1 ≤ p.L ∧ p.L ≤ 256 := by have := h.l; have := h.t; have := h.tl; have := h.wn; have := h.nl; omega
  have hSb : S ≤ 240 := by rw [hS]; exact Nat.le_trans (F.nS_le_len _ n (by have := h.l; omega)) hn
  rw [← hS] at g5 ⊢
  have hka : Hid (∀ i, i < sh.length → (sh.getD i []).length = S) := Lib.hid (fun i hi => g5 _ (by rw [List.getD_eq_getElem?_getD, List.getElem?_eq_getElem hi]; exact List.getElem_mem hi))
  have hkt : Hid (∀ j, j < S → ∀ r ∈ sh.take K, j < r.length) := Lib.hid (fun j hj r hr => by rw [g5 r (List.mem_of_mem_take hr)]; exact hj)
  have hstl : Hid ((sh.take K).length ≤ 1000) := Lib.hid (by rw [List.length_take]; omega)
  have hshl : sh.length = who.length := g4
  replace g4 := Lib.hid g4
  clear g1 g2 g3 g5 hc hS
  have HP := Blk.new w (planC p) 33
  have hB := below_alloc (Below.refl w.heap.size w) (.cells (planC p) 33)
  replace hv := hv.below hB
  replace hu := hu.below hB
  replace hF := hF.below hB
  have hKs : K ≤ sh.length := by omega
  replace hshl := Lib.hid hshl
  go_enter Try.func148, Try.ntmps148
  go_wp2_with fail
  refine (hck _ hv hu).out.mono ?_
  rintro e w1 ⟨rfl, h1⟩
  replace HP := HP.below h1
  replace hv := hv.below h1
  replace hu := hu.below h1
  replace hF := hF.below h1
  replace hB := bt_ hB h1
  clear h1 hck
  obtain ⟨c0, c1, c2, c3, c4, c5⟩ := cells6 HP
  go_wp2_with fail
  refine (need_yes p h _).mono ?_
  rintro e w2 ⟨rfl, h2⟩
  rw [eK]
  replace HP := HP.below h2
  replace hv := hv.below h2
  replace hu := hu.below h2
  replace hF := hF.below h2
  replace hB := bt_ hB h2
  clear h2 c0 c1 c2 c3 c4 c5
  obtain ⟨A, c, rfl, hcc, hr⟩ := hv
  have hkc : (K : Int) ≤ (c : Int) := by omega
  have hk0 : (0 : Int) ≤ (K : Int) := by omega
  have hw' : Ri w2 (.slice A K c) (who.take K) := ⟨A, c, by rw [List.length_take, Nat.min_eq_left hK2], by rw [List.length_take]; omega, Kd.C_take hr hK2⟩
  replace eK := Lib.hid eK
  go_wp2_with fail
  refine (points_c _ _ _ hw' hwl1.out).mono ?_
  rintro e w3 ⟨vP, rfl, sP, h3⟩
  replace sP := sP.rk
  replace hB := bt_ hB h3
  replace hu := hu.below h3
  replace hF := hF.below h3
  have hv : Ri w3 (.slice A who.length c) who := Rk.below ⟨A, c, rfl, hcc, hr⟩ h3
  replace HP := HP.below h3
  clear h3 hw' hr
  generalize hxs : (who.take K).map point = xs at *
  replace hxs := Lib.hid hxs
  obtain ⟨c0, c1, c2, c3, c4, c5⟩ := cells6 HP
  go_wp2_with fail
  refine (secrets_yes p h _).mono ?_
  rintro e w4 ⟨vS, rfl, sS, h4⟩
  replace sS := sS.rk
  replace HP := HP.below h4
  replace hB := bt_ hB h4
  replace hu := hu.below h4
  replace hF := hF.below h4
  replace sP := sP.below h4
  clear h4 hv c0 c1 c2 c3 c4 c5
  obtain ⟨As, cs, rfl⟩ := rk_form sS
  have hsl : (secretsAt p).length ≤ 1000 := by have := L_small p h; omega
  generalize hsec : secretsAt p = sec at *
  replace hsec := Lib.hid hsec
  go_wp2_with fail
  go_loopw [15, 17, 18, 19, 43] (fun s _ _ _ i wr => ∃ k : Nat, k ≤ sec.length ∧ i = .int .i64 k ∧ Obb w4 wr s ((sec.take k).map (F.wts xs)) ∧ Below w4.heap.size w4 wr) (fun _ _ _ _ i _ => sec.length - (intOf i).toNat)
  case atStart => exact ⟨0, by omega, rfl, Own.nil _ _ _ _, Below.refl _ _⟩
  case round =>
    obtain ⟨k, hk, rfl, hO, hD⟩ := hrel
    by_cases hlt : k < sec.length
    · obtain ⟨ads, es, ds⟩ := kb_at (rk_C (sS.below hD)) k hlt
      cases es
      have HS : Hid ((sec.take (k + 1)).map (F.wts xs) = (sec.take k).map (F.wts xs) ++ [F.wts xs (sec.getD k 0)]) := Lib.hid (by rw [take_snoc' sec k 0 hlt, List.map_append]; rfl)
      have hol : ((sec.take k).map (F.wts xs)).length ≤ 1000 := by rw [List.length_map, List.length_take]; omega
      generalize (sec.take k).map (F.wts xs) = G at *
      generalize sec.getD k 0 = x at *
      go_wp2_with fail
      refine (weights_yes _ _ xs x _ (hF.below hD) (sP.below hD) hNd.out (by rw [hxl.out]; exact hK)).mono ?_
      rintro e w5 ⟨vW, rfl, sW, h5⟩
      obtain ⟨AW, cW, rfl⟩ := rk_form sW.rk
      replace sW := sW.lower (w0 := w4) hD
      replace hO := hO.below h5
      replace hD := bt_ hD h5
      clear h5
      go_wp2_with (at_builtin; refine app_row rfl (.tmp 54) (.tmp 56) 66 40 rfl Try.underlying66 infoR (by decide) _ _ _ _ rfl rfl hO sW hD ?hl ?_; (case hl => (first | (simp; omega) | omega)); intro v1 w1 ho hb hg)
      exact ⟨⟨k + 1, by omega, by go_num, by rw [HS.out]; exact ho, hb⟩, by simp [intOf]; try omega⟩
    · obtain rfl : k = sec.length := by omega
      rw [List.take_length] at hO
      have hW := hO.rk
      replace HP := HP.below hD
      replace hB := bt_ hB hD
      replace hu := hu.below hD
      replace hF := hF.below hD
      clear hO sS sP hD
      obtain ⟨AW, cW, rfl⟩ := rk_form hW
      rw [List.length_map] at hW ⊢
      obtain ⟨B, d, rfl⟩ := rk_form hu
      have hut : Rbb wr (.slice B K d) (sh.take K) := by
        obtain ⟨B', d', e, hd', hs'⟩ := hu
        cases e
        exact ⟨B, d, by rw [List.length_take, Nat.min_eq_left hKs], by rw [List.length_take]; omega, Kd.C_take hs' hKs⟩
      have hkd : (K : Int) ≤ (d : Int) := by have := rk_cap hu; omega
      obtain ⟨c0, c1, c2, c3, c4, c5⟩ := cells6 HP
      go_wp2_with fail
      refine (hStr _).out.mono ?_
      rintro e w6 ⟨rfl, h6⟩
      replace HP := HP.below h6
      replace hB := bt_ hB h6
      replace hut := hut.below h6
      replace hF := hF.below h6
      replace hW := hW.below h6
      clear h6 hu c0 c1 c2 c3 c4 c5
      go_wp2_with fail
      go_loopw [20, 21, 22, 23, 25, 62] (fun s _ _ _ _ i wr => ∃ k : Nat, k ≤ S ∧ i = .int .i64 k ∧ Obb w6 wr s (rowsOf xs sec (sh.take K) k) ∧ Below w6.heap.size w6 wr) (fun _ _ _ _ _ i _ => S - (intOf i).toNat)
      case atStart => exact ⟨0, by omega, rfl, Own.nil _ _ _ _, Below.refl _ _⟩
      case round =>
        obtain ⟨k, hk, rfl, hO, hD⟩ := hrel
        by_cases hlt : k < S
        · have HS := Lib.hid (rowsOf_snoc xs sec (sh.take K) k)
          have hol : (rowsOf xs sec (sh.take K) k).length ≤ 1000 := by rw [rowsOf_len]; omega
          generalize rowsOf xs sec (sh.take K) k = R at *
          go_wp2_with fail
          refine (bValues_c _ _ k _ (hut.below hD) hstl.out (hkt.out k hlt)).mono ?_
          rintro e w7 ⟨vV, rfl, sV, h7⟩
          replace sV := sV.rk
          replace hO := hO.below h7
          replace hD := bt_ hD h7
          clear h7
          obtain ⟨c0, c1, c2, c3, c4, c5⟩ := cells6 (HP.below hD)
          go_wp2_with ((with_reducible refine gate_dst (N := 72) rfl ?_); refine mk_cap kb rfl 40 5 _ _ rfl .i64 _ rfl rfl Try.underlying40 (.int .u8 0) 1 infoB (by decide) ?h0 ?hl (Below.refl w7.heap.size w7) ?_; (case h0 => omega); (case hl => omega); intro v1 w1 ho hb hg)
          replace ho : Ob w7 w1 v1 _ := ho
          clear hg c0 c1 c2 c3 c4 c5
          go_wp2_with fail
          go_loopw [23, 25, 75] (fun s _ i wr2 => ∃ q : Nat, q ≤ sec.length ∧ i = .int .i64 q ∧ Ob w7 wr2 s ((sec.take q).map fun x => dot (F.wts xs x) (F.colOf (sh.take K) k)) ∧ Below w7.heap.size w7 wr2) (fun _ _ i _ => sec.length - (intOf i).toNat)
          case atStart => exact ⟨0, by omega, rfl, ho, hb⟩
          case round =>
            clear ho hb
            obtain ⟨q, hq, rfl, hY, hE⟩ := hrel
            have hDE := bt_ hD hE
            by_cases hlt2 : q < sec.length
            · obtain ⟨ad, u2, e2, d2, hu2⟩ := kbb_at (rk_C (hW.below hDE)) q (by rw [List.length_map]; exact hlt2)
              cases e2
              rw [map_getD sec (F.wts xs) 0 [] q hlt2] at hu2
              have HS2 : Hid ((sec.take (q + 1)).map (fun x => dot (F.wts xs x) (F.colOf (sh.take K) k)) = (sec.take q).map (fun x => dot (F.wts xs x) (F.colOf (sh.take K) k)) ++ [dot (F.wts xs (sec.getD q 0)) (F.colOf (sh.take K) k)]) := Lib.hid (by rw [take_snoc' sec q 0 hlt2, List.map_append]; rfl)
              have hlen : ((sec.take q).map (fun x => dot (F.wts xs x) (F.colOf (sh.take K) k))).length ≤ 1000 := by rw [List.length_map, List.length_take]; omega
              generalize sec.getD q 0 = x at *
              generalize (sec.take q).map (fun x => dot (F.wts xs x) (F.colOf (sh.take K) k)) = C at *
              go_wp2_with fail
              refine (fDot_c b u2 vV (F.wts xs x) (F.colOf (sh.take K) k) _ (hF.below hDE) hu2 (sV.below hE)).mono ?_
              rintro e w8 ⟨rfl, h8⟩
              replace hY := hY.below h8.below
              replace hE := bt_ hE h8.below
              clear h8 hDE d2 hu2
              generalize hy : dot (F.wts xs x) (F.colOf (sh.take K) k) = y at *
              replace hy := Lib.hid hy
              go_wp2_with (at_builtin; refine app_one (enc := bV) rfl (.tmp 79) (.tmp 84) 40 5 (.int .u8 0) 1 rfl Try.underlying40 infoB rfl (by decide) _ _ y rfl rfl _ (bV_eq ?hc) hY hE ?hl ?_; (case hc => (first | exact rfl | exact rfl)); (case hl => (first | (simp; omega) | omega)); intro v1 w1 ho hb hg)
              exact ⟨⟨q + 1, by omega, by go_num, by rw [HS2.out]; exact ho, hb⟩, by simp [intOf]; try omega⟩
            · obtain rfl : q = sec.length := by omega
              rw [List.take_length] at hY
              obtain ⟨AY, cY, rfl⟩ := rk_form hY.rk
              rw [List.length_map] at hY ⊢
              replace hY := hY.lower (w0 := w6) hD
              replace hO := hO.below hE
              replace hD := bt_ hD hE
              clear hE hDE
              go_wp2_with (at_builtin; refine app_row rfl (.tmp 87) (.tmp 89) 66 40 rfl Try.underlying66 infoR (by decide) _ _ _ _ rfl rfl hO hY hD ?hl ?_; (case hl => (first | (simp; omega) | omega)); intro v1 w1 ho hb hg)
              exact ⟨⟨k + 1, by omega, by go_num, by rw [HS.out]; exact ho, hb⟩, by simp [intOf]; try omega⟩
        · obtain rfl : k = S := by omega
          have hfit : Hid (fitsJ p (rowsOf xs sec (sh.take K) k) n) := Lib.hid ⟨by rw [rowsOf_len, stripes_nat h n hn, hSn.out], by
            rw [List.any_eq_false]
            intro r hr
            unfold rowsOf at hr
            obtain ⟨j, _, rfl⟩ := List.mem_map.1 hr
            unfold bad3
            rw [List.length_map, ← hsec.out, sec_len10]
            have := hLL
            simp
            omega⟩
          have hR := hO.rk
          obtain ⟨c0, c1, c2, c3, c4, c5⟩ := cells6 (HP.below hD)
          have hn9 : (n : Int) ≤ 240 := by omega
          go_wp2_with fail
          refine (sJoin_ok p h _ _ n hn9 _ hR hfit.out).mono ?_
          rintro e w9 ⟨z, rfl, hZ, h9⟩
          go_wp2
          go_ret2
          rw [hsec.out, hxs.out]
          exact ⟨_, rfl, hZ.lower (bt_ hB hD), bt_ (bt_ hB hD) h9⟩
end Go.Proofs.Ytijeabhfddaoaaa
