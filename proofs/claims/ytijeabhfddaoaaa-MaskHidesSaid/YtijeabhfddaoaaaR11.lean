/- The walks of the reference of layer 11: Poly, Blob, Agree. -/
import Derived.Test.YtijeabhfddaoaaaR10
import Derived.Test.YtijeabhfddaoaaaR13c
namespace Go.Proofs.Ytijeabhfddaoaaa
set_option linter.unusedVariables false
open Go.RowKit Go.Proofs.YtijeabhfddaoaaaW.PrintWords Go.Proofs.Sh

set_option maxRecDepth 100000 in
set_option maxHeartbeats 3200000 in
theorem rPoly11_c (p : Pl) (h : p.Ok) (K : Nat) (eK : p.T + p.L = K) (v u : Value) (who : List Int) (sh : List (List F)) (k : Nat) (w : World) (hv : Ri w v who) (hu : Rbb w u sh) (hK2 : K ≤ who.length) (hK3 : K ≤ sh.length) (hk : ∀ r ∈ sh, k < r.length) :
   Calls Try.prog 200 #[planV p, v, u, .int .i64 (k : Int)] w fun e w' => ∃ z, e = .returned z ∧ Ob w w' z (F.nwt ((who.take K).map point) (F.colOf (sh.take K) k) ((who.take K).map point).length) ∧ Below w.heap.size w w' := by
  have hKb : K ≤ 256 := by have := h.tl; have := h.wn; have := h.nl; have := h.l; omega
  have hxl : Hid (((who.take K).map point).length = K) := Lib.hid (by rw [List.length_map, List.length_take]; omega)
  have hxl2 : ((who.take K).map point).length ≤ 100000 := by rw [hxl.out]; omega
  obtain ⟨r1, r2⟩ := tl_range h
  have u1 : IntKind.i64.wrap (p.T + p.L) = p.T + p.L := wrapI _ (by omega) (by omega)
  have hB := below_alloc (Below.refl w.heap.size w) (.cells (planC p) 33)
  have HP := Blk.new w (planC p) 33
  have c1 := HP.cell 1 _ rfl
  have c2 := HP.cell 2 _ rfl
  obtain ⟨A, c, rfl, hc, hr⟩ := hv
  obtain ⟨B, d, rfl, hd, hs⟩ := hu
  have hl := ri_len hr
  have hkc : (K : Int) ≤ (c : Int) := by omega
  have hk0 : (0 : Int) ≤ (K : Int) := by omega
  have hw' : Ri w (.slice A K c) (who.take K) := ⟨A, c, by rw [List.length_take, Nat.min_eq_left hK2], by rw [List.length_take]; omega, Kd.C_take hr hK2⟩
  have hwl : Hid ((who.take K).length < 1000000) := Lib.hid (by rw [List.length_take]; omega)
  have hcl : Hid ((F.colOf (sh.take K) k).length = K) := Lib.hid (by rw [F.colOf_len, List.length_take]; omega)
  have eK2 : p.T + p.L = (K : Int) := eK
  clear r1 r2 eK
  replace hk := Lib.hid hk
  go_enter Try.func200, Try.ntmps200
  go_wp2_with fail
  clear c1 c2 HP
  replace eK2 := Lib.hid eK2
  go_loopw [9, 11] (fun s i wr => ∃ q : Nat, q ≤ K ∧ i = .int .i64 q ∧ Ob w wr s ((F.colOf (sh.take K) k).take q) ∧ Below w.heap.size w wr) (fun _ i _ => K - (intOf i).toNat)
  case atStart => exact ⟨0, by omega, rfl, Own.nil _ _ _ _, hB⟩
  case round =>
    clear hB
    obtain ⟨q, hq, rfl, hY, hB⟩ := hrel
    by_cases hlt2 : q < K
    · obtain ⟨ad2, u2, rfl, d1, hu2⟩ := kbb_at hs q (by omega)
      have d1 := pw_cell_below hB d1
      have hu2 := hu2.below hB
      have hrl : k < (sh.getD q []).length := hk.out _ (by rw [List.getD_eq_getElem?_getD, List.getElem?_eq_getElem (by omega : q < sh.length)]; exact List.getElem_mem _)
      have hcol : Hid ((F.colOf (sh.take K) k).getD q 0 = (sh.getD q []).getD k 0) := Lib.hid (by
        rw [F.colOf_at _ _ _ (by rw [List.length_take]; omega)]
        congr 1
        simp [List.getD_eq_getElem?_getD, List.getElem?_take_of_lt hlt2])
      have HS2 : Hid ((F.colOf (sh.take K) k).take (q + 1) = (F.colOf (sh.take K) k).take q ++ [(sh.getD q []).getD k 0]) := Lib.hid (by rw [take_snoc' _ q 0 (by rw [hcl.out]; exact hlt2), hcol.out])
      obtain ⟨A9, c9, rfl⟩ := rk_form hu2
      obtain ⟨ad3, rfl, d2⟩ := kb_at (rk_C hu2) k hrl
      have hi2 : (q : Int) < (sh.length : Int) := by omega
      have hi3 : (k : Int) < ((sh.getD q []).length : Int) := by omega
      have hlen : ((F.colOf (sh.take K) k).take q).length ≤ 1000 := by rw [List.length_take, hcl.out]; omega
      generalize (sh.getD q []).getD k 0 = z at *
      generalize sh.getD q [] = r at *
      replace hrl := Lib.hid hrl
      generalize hC : (F.colOf (sh.take K) k).take q = C at *
      replace hC := Lib.hid hC
      go_wp2_with (at_builtin; refine app_one (enc := bV) rfl (.tmp 22) (.tmp 30) 40 5 (.int .u8 0) 1 rfl Try.underlying40 infoB rfl (by decide) _ _ z rfl rfl _ (bV_eq ?hc) hY hB ?hl ?_; (case hc => (first | exact rfl | exact rfl)); (case hl => (first | (simp; omega) | omega)); intro v1 w1 ho hb hg)
      exact ⟨⟨q + 1, by omega, by go_num, by rw [HS2.out]; exact ho, hb⟩, by simp [intOf]; try omega⟩
    · obtain rfl : q = K := by omega
      rw [List.take_of_length_le (by rw [hcl.out]; omega)] at hY
      have hw' := hw'.below hB
      go_wp2_with fail
      refine (rPoints_c _ _ _ hw' hwl.out).mono ?_
      rintro e w4 ⟨vP, rfl, sP, h4⟩
      replace sP := sP.rk
      have hY := (hY.below h4).rk
      have hB := bt_ hB h4
      clear h4 hw'
      go_wp2_with fail
      refine (rThrough_c _ _ _ _ _ sP hY (by rw [hxl.out, hcl.out]) hxl2).mono ?_
      rintro e w6 ⟨z, rfl, sz, h6⟩
      replace sz := sz.lower (w0 := w) hB
      go_wp2
      go_ret
      exact ⟨_, rfl, sz, bt_ hB h6⟩
set_option maxRecDepth 100000 in
set_option maxHeartbeats 3200000 in
theorem rBlob11_c (p : Pl) (h : p.Ok) (K : Nat) (eK : p.T + p.L = K) (n : Nat) (hn : n ≤ 240) (v u : Value) (who : List Int) (sh : List (List F)) (w : World) (hv : Ri w v who) (hu : Rbb w u sh) (hK2 : K ≤ who.length) (hK3 : K ≤ sh.length) (hk : ∀ r ∈ sh, r.length = F.nS p.L.toNat n) :
   Calls Try.prog 151 #[planV p, .int .i64 (n : Int), v, u] w fun e w' => ∃ z, e = .returned z ∧ Ob w w' z (refBlob ((who.take K).map point) (secretsAt p) p.L.toNat (sh.take K) n) ∧ Below w.heap.size w w' := by
  obtain ⟨L, eL, eL2, hL1, hL2⟩ := nat_l h
  rw [eL2] at hk ⊢
  have hsl : Hid ((secretsAt p).length = L) := Lib.hid (by rw [sec_len10, eL2])
  have hkb : Hid (∀ k, k < n → ∀ r ∈ sh, k / L < r.length) := Lib.hid (fun k hkn r hr => by
    rw [hk r hr, F.nS_lt L n _ (by omega)]
    exact Nat.lt_of_le_of_lt (Nat.div_mul_le_self k L) hkn)
  clear hk eL2
  replace eL := Lib.hid eL
  replace eK := Lib.hid eK
  replace hK2 := Lib.hid hK2
  replace hK3 := Lib.hid hK3
  have HP := Blk.new w (planC p) 33
  have hB := below_alloc (Below.refl w.heap.size w) (.cells (planC p) 33)
  go_enter Try.func151, Try.ntmps151
  go_wp2_with fail
  refine (rSecrets_c p h _).mono ?_
  rintro e w1 ⟨vS, rfl, sS, h1⟩
  replace sS := sS.rk
  replace HP := HP.below h1
  replace hB := bt_ hB h1
  replace hv := hv.below hB
  replace hu := hu.below hB
  clear h1
  obtain ⟨As, cs, rfl⟩ := rk_form sS
  generalize hsec : secretsAt p = sec at *
  replace hsec := Lib.hid hsec
  go_wp2_with fail
  go_loopw [9, 11] (fun s i wr => ∃ k : Nat, k ≤ n ∧ i = .int .i64 k ∧ Ob w1 wr s (refBlob ((who.take K).map point) sec L (sh.take K) k) ∧ Below w1.heap.size w1 wr) (fun _ i _ => n - (intOf i).toNat)
  case atStart => exact ⟨0, by omega, rfl, Own.nil _ _ _ _, Below.refl _ _⟩
  case round =>
    obtain ⟨k, hk, rfl, hO, hD⟩ := hrel
    by_cases hlt : k < n
    · have HS := Lib.hid (refBlob_snoc ((who.take K).map point) sec L (sh.take K) k)
      have hol : Hid ((refBlob ((who.take K).map point) sec L (sh.take K) k).length ≤ 1000) := Lib.hid (by unfold refBlob; rw [List.length_map, List.length_range]; omega)
      have hmod : k % L < L := Nat.mod_lt _ (by omega)
      have hq240 : k / L ≤ 240 := Nat.le_trans (Nat.div_le_self k L) (by omega)
      have hqr := Lib.hid (hkb.out k hlt)
      have dq : (k : Int).tdiv p.L = ((k / L : Nat) : Int) := by rw [eL.out]; rfl
      have dm : (k : Int).tmod p.L = ((k % L : Nat) : Int) := by rw [eL.out]; rfl
      have hL0 : ¬ p.L = 0 := by rw [eL.out]; omega
      obtain ⟨ads, rfl, d0⟩ := kb_at (rk_C sS) (k % L) (by rw [hsl.out]; exact hmod)
      have i1 : ((k % L : Nat) : Int) < (sec.length : Int) := by rw [hsl.out]; exact Int.ofNat_lt.2 hmod
      generalize hx : sec.getD (k % L) 0 = x at *
      replace hx := Lib.hid hx
      generalize hqq : k / L = q at *
      replace hqq := Lib.hid hqq
      generalize hmm : k % L = m at *
      replace hmm := Lib.hid hmm
      have u5 : IntKind.i64.wrap (q : Int) = q := wrapI _ (by omega) (by omega)
      generalize hG : refBlob ((who.take K).map point) sec L (sh.take K) k = G at *
      replace hG := Lib.hid hG
      generalize hN : F.nwt ((who.take K).map point) (F.colOf (sh.take K) q) ((who.take K).map point).length = N at *
      replace hN := Lib.hid hN
      have hpoly := fun W h1 h2 => Lib.hid (rPoly11_c p h K eK.out v u who sh q W h1 h2 hK2.out hK3.out hqr.out)
      rw [hN.out] at hpoly
      have hvr := hv.below hD
      have hur := hu.below hD
      have e0 := pw_cell_below hD d0
      obtain ⟨c0, c1, c2, c3, c4, c5⟩ := cells6 (HP.below hD)
      go_wp2_with fail
      go_region_held3 (fun w' => w'.cell? ⟨w.heap.size, 0, none⟩ = some (.int .i64 p.N) ∧ w'.cell? ⟨w.heap.size, 1, none⟩ = some (.int .i64 p.T) ∧ w'.cell? ⟨w.heap.size, 2, none⟩ = some (.int .i64 p.L) ∧ w'.cell? ⟨w.heap.size, 3, none⟩ = some (.int .i64 p.W) ∧ w'.cell? ⟨w.heap.size, 4, none⟩ = some (.int .i64 p.S) ∧ w'.cell? ⟨w.heap.size, 5, none⟩ = some (.int .i64 p.R) ∧ w'.cell? (ads.add m) = some (.int .u8 (x.n : Int)))
        (go_keep)
        (first
        | (go_at_call 200; refine (hpoly _ (by first | exact hvr | exact hvr.drew | exact hvr.drewN _) (by first | exact hur | exact hur.drew | exact hur.drewN _)).out.mono ?_; rintro e w6 ⟨vM, rfl, sM, h6⟩; replace sM := sM.rk; (repeat (first | replace h6 := ba h6 | replace h6 := buN h6 | replace h6 := bu h6)); replace hD := bt_ hD h6; replace hO := hO.below h6; clear c0 c1 c2 c3 c4 c5; obtain ⟨c0, c1, c2, c3, c4, c5⟩ := cells6 (HP.below hD); replace e0 := pw_cell_below hD d0)
        | (go_at_call 76; refine (rEval_c _ N x _ (by first | exact sM | exact sM.drew | exact sM.drewN _)).mono ?_; rintro e w7 ⟨rfl, rfl⟩)
        | (refine step_app_y (w0 := w1) (by rfl) (.tmp 19) (.tmp 36) (by rfl) _ _ (F.ev x N) _ (by rfl) (by rfl) (by rfl) (by first | exact hO | exact hO.below (pw_below_drewN (Below.refl _ _) _) | exact hO.below (below_drew (Below.refl _ _))) (by first | exact hD | exact pw_below_drewN hD _ | exact below_drew hD) (by have := hol.out; omega) ?_; intro v8 w8 hO8 hB8 hg8; clear c0 c1 c2 c3 c4 c5; obtain ⟨c0, c1, c2, c3, c4, c5⟩ := cells6 (HP.below hB8); replace e0 := pw_cell_below hB8 d0)
        | fail)
      go_wp2
      exact ⟨⟨k + 1, by omega, by go_num, by rw [HS.out]; exact hO8, hB8⟩, by simp [intOf]; try omega⟩
    · obtain rfl : k = n := by omega
      go_wp2
      go_ret
      exact ⟨_, rfl, by rw [hsec.out]; exact hO.lower hB, bt_ hB hD⟩
set_option maxRecDepth 100000 in
set_option maxHeartbeats 3200000 in
theorem rAgree11_c (p : Pl) (h : p.Ok) (K : Nat) (eK : p.T + p.L = K) (S : Nat) (hS : S ≤ 1000) (v u : Value) (who : List Int) (sh : List (List F)) (w : World) (hv : Ri w v who) (hu : Rbb w u sh) (hwl : who.length ≤ 1000) (hK2 : K ≤ who.length) (hK3 : sh.length = who.length) (hk : ∀ r ∈ sh, r.length = S) :
   Calls Try.prog 152 #[planV p, v, u] w fun e w' => ∃ b : Bool, e = .returned (.bool b) ∧ (b = true ↔ agrR ((who.take K).map point) (who.map point) K sh S) ∧ Below w.heap.size w w' := by
  have hK1 : 1 ≤ K := by have := h.t; have := h.l; omega
  have hlen0 : 0 < sh.length := by omega
  have hk' : Hid (∀ j, j < S → ∀ r ∈ sh, j < r.length) := Lib.hid (fun j hj r hr => by rw [hk r hr]; exact hj)
  have hka : Hid (∀ i, i < sh.length → (sh.getD i []).length = S) := Lib.hid (fun i hi => hk _ (by rw [List.getD_eq_getElem?_getD, List.getElem?_eq_getElem hi]; exact List.getElem_mem hi))
  have hK3' : K ≤ sh.length := by omega
  replace hK3 := Lib.hid hK3
  replace hK3' := Lib.hid hK3'
  replace hK2 := Lib.hid hK2
  replace eK := Lib.hid eK
  clear hk
  have HP := Blk.new w (planC p) 33
  have hB := below_alloc (Below.refl w.heap.size w) (.cells (planC p) 33)
  replace hv := hv.below hB
  replace hu := hu.below hB
  obtain ⟨A, c, rfl⟩ := rk_form hv
  obtain ⟨B, d, rfl⟩ := rk_form hu
  obtain ⟨ad, u0, rfl, d0, hu0⟩ := kbb_at (rk_C hu) 0 hlen0
  obtain ⟨A0, c0', rfl⟩ := rk_form hu0
  rw [hka.out 0 hlen0] at d0
  have d0z : (w.alloc (.cells (planC p) 33)).cell? ad = some (.slice A0 S c0') := by rw [← d0, add_0]
  clear d0 hu0
  go_enter Try.func152, Try.ntmps152
  go_wp2_with fail
  generalize w.alloc (.cells (planC p) 33) = w1 at *
  go_loopw [7, 8, 9] (fun j _ _ wr => ∃ q : Nat, q ≤ S ∧ j = .int .i64 q ∧ Hid (agrR ((who.take K).map point) (who.map point) K sh q) ∧ Below w1.heap.size w1 wr) (fun j _ _ _ => S - (intOf j).toNat)
  case atStart => exact ⟨0, by omega, rfl, Lib.hid (fun j hj => by omega), Below.refl _ _⟩
  case round =>
    obtain ⟨q, hq, rfl, hJ, hD⟩ := hrel
    have e0 := pw_cell_below hD d0z
    by_cases hlt : q < S
    · obtain ⟨c0, c1, c2, c3, c4, c5⟩ := cells6 (HP.below hD)
      go_wp2_with fail
      refine (rPoly11_c p h K eK.out _ _ who sh q _ (hv.below hD) (hu.below hD) hK2.out hK3'.out (hk'.out q hlt)).mono ?_
      rintro e w2 ⟨vN, rfl, sN, h2⟩
      replace sN := sN.rk
      generalize hN : F.nwt ((who.take K).map point) (F.colOf (sh.take K) q) ((who.take K).map point).length = N at *
      replace hN := Lib.hid hN
      replace hD := bt_ hD h2
      clear h2 e0 c0 c1 c2 c3 c4 c5
      go_wp2_with fail
      go_loopw [9] (fun i wr2 => ∃ t : Nat, t ≤ who.length ∧ i = .int .i64 t ∧ Hid (∀ i, i < t → F.ev ((who.map point).getD i 0) N = (sh.getD i []).getD q 0) ∧ Below w2.heap.size w2 wr2) (fun i _ => who.length - (intOf i).toNat)
      case atStart => exact ⟨0, by omega, rfl, Lib.hid (fun i hi => by omega), Below.refl _ _⟩
      case round =>
        obtain ⟨t, ht, rfl, hI, hE⟩ := hrel
        have hDE := bt_ hD hE
        by_cases hlt2 : t < who.length
        · have hts : t < sh.length := by have := hK3.out; omega
          obtain ⟨aw, ew, dw⟩ := ki_at (rk_C (hv.below hDE)) t hlt2
          cases ew
          obtain ⟨ad2, u2, e2, d2, hu2⟩ := kbb_at (rk_C (hu.below hDE)) t hts
          cases e2
          obtain ⟨A2, c2', rfl⟩ := rk_form hu2
          obtain ⟨ad3, rfl, d3⟩ := kb_at (rk_C hu2) q (by rw [hka.out t hts]; exact hlt)
          have i3 : (q : Int) < ((sh.getD t []).length : Int) := by rw [hka.out t hts]; omega
          have hts2 : (t : Int) < (sh.length : Int) := by omega
          have hpt : Hid ((who.map point).getD t 0 = point (who.getD t 0)) := Lib.hid (map_getD who point 0 0 t hlt2)
          have hz := Lib.hid (show (sh.getD t []).getD q 0 = (sh.getD t []).getD q 0 from rfl)
          have hgen : ∀ z : F, (sh.getD t []).getD q 0 = z → Hid ((sh.getD t []).getD q 0 = z) := fun z e => Lib.hid e
          obtain ⟨z, hzz⟩ : ∃ z, (sh.getD t []).getD q 0 = z := ⟨_, rfl⟩
          rw [hzz] at d3
          replace hzz := Lib.hid hzz
          clear hz hgen
          generalize hr : sh.getD t [] = r at d2 d3 i3 hu2
          replace hr := Lib.hid hr
          generalize hi0 : who.getD t 0 = i0 at *
          replace hi0 := Lib.hid hi0
          obtain ⟨y, hy⟩ : ∃ y, F.ev (point i0) N = y := ⟨_, rfl⟩
          have hP := fun n => Lib.hid (rPoint_c i0 (wr.drewN n))
          have hEv : ∀ n, Hid (Calls Try.prog 76 #[vN, .int .u8 ((point i0).n : Int)] (wr.drewN n) fun e w' => e = .returned (.int .u8 (y.n : Int)) ∧ wr.drewN n = w') := fun n => Lib.hid (by rw [← hy]; exact rEval_c vN N (point i0) _ ((sN.below hE).drewN n))
          replace hy := Lib.hid hy
          by_cases e : y = z
          · subst e
            have hI2 : Hid (∀ i, i < t + 1 → F.ev ((who.map point).getD i 0) N = (sh.getD i []).getD q 0) := Lib.hid (fun i hi => by
              by_cases e : i = t
              · subst e; rw [hpt.out, hy.out, hzz.out]
              · exact hI.out i (by omega))
            go_wp2_with fail
            go_quiet ((first | (go_at_call 59; exact qs (hP _).out) | (go_at_call 76; exact qs (hEv _).out)))
            go_wp2
            exact ⟨⟨t + 1, by omega, by go_num, hI2, pw_below_drewN hE _⟩, by simp [intOf]; try omega⟩
          · have t5 : ((y.n : Int) != (z.n : Int)) = true := by rw [bne_iff_ne]; intro h; exact e (F.n_inj (by omega))
            have hno : Hid (¬ agrR ((who.take K).map point) (who.map point) K sh S) := Lib.hid (fun ha => e (by
              have := ha q hlt t (by rw [List.length_map]; exact hlt2)
              rw [hpt.out, hN.out, hy.out, hzz.out] at this
              exact this))
            clear e
            go_wp2_with fail
            go_quiet ((first | (go_at_call 59; exact qs (hP _).out) | (go_at_call 76; exact qs (hEv _).out)))
            go_wp2
            go_ret
            exact ⟨false, rfl, ⟨fun e => (by cases e), fun e => (hno.out e).elim⟩, pw_below_drewN (bt_ hB hDE) _⟩
        · obtain rfl : t = who.length := by omega
          have hJ2 : Hid (agrR ((who.take K).map point) (who.map point) K sh (q + 1)) := Lib.hid (fun j hj i hi => by
            by_cases e : j = q
            · subst e
              rw [hN.out]
              exact hI.out i (by rw [List.length_map] at hi; exact hi)
            · exact hJ.out j (by omega) i hi)
          go_wp2
          exact ⟨⟨q + 1, by omega, by go_num, hJ2, hDE⟩, by simp [intOf]; try omega⟩
    · obtain rfl : q = S := by omega
      go_wp2
      go_ret
      exact ⟨true, rfl, ⟨fun _ => hJ.out, fun _ => rfl⟩, bt_ hB hD⟩
end Go.Proofs.Ytijeabhfddaoaaa
