/- The walk of the reference of layer 13: the share that is found. -/
import Derived.Test.YtijeabhfddaoaaaR13
import Derived.Test.YtijeabhfddaoaaaBf
import Derived.Test.YtijeabhfddaoaaaR03
namespace Go.Proofs.Ytijeabhfddaoaaa
set_option linter.unusedVariables false
open Go.RowKit Go.Proofs.YtijeabhfddaoaaaW.PrintWords Go.Proofs.Sh

set_option maxRecDepth 100000 in
set_option maxHeartbeats 3200000 in
theorem rFind13_c (p : Pl) (h : p.Ok) (n : Nat) (t : Int) (hn2 : (n : Int) ≤ 240) (K : Nat) (eK : p.T + p.L = K) (hK : K < 255) (v u : Value) (who : List Int) (parts : List (List F)) (w : World) (hv : Ri w v who) (hu : Rbb w u parts) (ha : amE p n t who parts = 0) :
   Calls Try.prog 130 #[planV p, .int .i64 n, .int .i64 t, v, u] w fun e w' => ∃ z, e = .returned z ∧ Ob w w' z (F.findOf ((who.take K).map point) (point t) (parts.take K) n) ∧ Below w.heap.size w w' := by
  have hz := Lib.hid (am_zero ha)
  have hK2 : K ≤ who.length := by have := hz.out.2.2.1; omega
  have hK3 : K ≤ parts.length := by have := hz.out.2.2.2.1; omega
  have hNd : Hid (((who.take K).map point).Nodup) := Lib.hid ((nodup_points (fun i hi => by
    have := (hz.out.1 i (List.mem_of_mem_take hi)).1
    have := h.nl; have := h.l
    omega)).2 (hz.out.2.1.sublist (List.take_sublist _ _)))
  have hxl : Hid (((who.take K).map point).length = K) := Lib.hid (by rw [List.length_map, List.length_take]; omega)
  obtain ⟨r1, r2⟩ := tl_range h
  have u1 : IntKind.i64.wrap (p.T + p.L) = p.T + p.L := wrapI _ (by omega) (by omega)
  have hB := below_alloc (Below.refl w.heap.size w) (.cells (planC p) 33)
  have HP := Blk.new w (planC p) 33
  have c1 := HP.cell 1 _ rfl
  have c2 := HP.cell 2 _ rfl
  obtain ⟨A, c, rfl, hc, hr⟩ := hv
  obtain ⟨B, d, rfl, hd, hs⟩ := hu
  have hl := ri_len hr
  have hkc : (K : Int) ≤ (c : Int) := by omega
  have hk0 : (0 : Int) ≤ (K : Int) := by omega
  have hw' : Ri w (.slice A K c) (who.take K) := ⟨A, c, by rw [List.length_take, Nat.min_eq_left hK2], by rw [List.length_take]; omega, Kd.C_take hr hK2⟩
  have hwl : Hid ((who.take K).length < 1000000) := Lib.hid (by rw [List.length_take]; omega)
  have hcl : Hid (∀ j, (F.colOf (parts.take K) j).length = K) := Lib.hid (fun j => by rw [F.colOf_len, List.length_take]; omega)
  have eK2 : p.T + p.L = (K : Int) := eK
  clear ha r1 r2 eK
  have hu : Rbb w (.slice B parts.length d) parts := ⟨B, d, rfl, hd, hs⟩
  go_enter Try.func130, Try.ntmps130
  go_wp2_with fail
  clear c1 c2 HP
  replace eK2 := Lib.hid eK2
  go_loopw [11, 13, 14, 15] (fun s i _ _ wr => ∃ k : Nat, k ≤ n ∧ i = .int .i64 k ∧ Ob w wr s ((List.range k).map fun j => dot (F.wts ((who.take K).map point) (point t)) (F.colOf (parts.take K) j)) ∧ Below w.heap.size w wr) (fun _ i _ _ _ => n - (intOf i).toNat)
  case atStart => exact ⟨0, by omega, rfl, Own.nil _ _ _ _, hB⟩
  case round =>
    clear hB
    obtain ⟨k, hk, rfl, hO, hB⟩ := hrel
    by_cases hlt : k < n
    · have HS := Lib.hid (range_snoc (fun j => dot (F.wts ((who.take K).map point) (point t)) (F.colOf (parts.take K) j)) k)
      go_wp2_with fail
      go_loopw [14, 15] (fun s i wr2 => ∃ q : Nat, q ≤ K ∧ i = .int .i64 q ∧ Ob wr wr2 s ((F.colOf (parts.take K) k).take q) ∧ Below wr.heap.size wr wr2) (fun _ i _ => K - (intOf i).toNat)
      case atStart => exact ⟨0, by omega, rfl, Own.nil _ _ _ _, Below.refl _ _⟩
      case round =>
        obtain ⟨q, hq, rfl, hY, hD⟩ := hrel
        by_cases hlt2 : q < K
        · have hbq := bt_ hB hD
          obtain ⟨ad2, u2, rfl, d1, hu2⟩ := kbb_at hs q (by omega)
          have d1 := pw_cell_below hbq d1
          have hu2 := hu2.below hbq
          have hrl : ((parts.getD q []).length : Int) = n := hz.out.2.2.2.2 _ (by rw [List.getD_eq_getElem?_getD, List.getElem?_eq_getElem (by omega : q < parts.length)]; exact List.getElem_mem _)
          have hcol : Hid ((F.colOf (parts.take K) k).getD q 0 = (parts.getD q []).getD k 0) := Lib.hid (by
            rw [F.colOf_at _ _ _ (by rw [List.length_take]; omega)]
            congr 1
            simp [List.getD_eq_getElem?_getD, List.getElem?_take_of_lt hlt2])
          have HS2 : Hid ((F.colOf (parts.take K) k).take (q + 1) = (F.colOf (parts.take K) k).take q ++ [(parts.getD q []).getD k 0]) := Lib.hid (by rw [take_snoc' _ q 0 (by rw [hcl.out]; exact hlt2), hcol.out])
          obtain ⟨A9, c9, rfl⟩ := rk_form hu2
          obtain ⟨ad3, rfl, d2⟩ := kb_at (rk_C hu2) k (by omega)
          have hi2 : (q : Int) < (parts.length : Int) := by omega
          have hi3 : (k : Int) < ((parts.getD q []).length : Int) := by omega
          have hlen : ((F.colOf (parts.take K) k).take q).length ≤ 1000 := by rw [List.length_take, hcl.out]; omega
          generalize (parts.getD q []).getD k 0 = z at *
          generalize parts.getD q [] = r at *
          replace hrl := Lib.hid hrl
          generalize hC : (F.colOf (parts.take K) k).take q = C at *
          replace hC := Lib.hid hC
          go_wp2_with (at_builtin; refine app_one (enc := bV) rfl (.tmp 31) (.tmp 39) 40 5 (.int .u8 0) 1 rfl Try.underlying40 infoB rfl (by decide) _ _ z rfl rfl _ (bV_eq ?hc) hY hD ?hl ?_; (case hc => (first | exact rfl | exact rfl)); (case hl => (first | (simp; omega) | omega)); intro v1 w1 ho hb hg)
          exact ⟨⟨q + 1, by omega, by go_num, by rw [HS2.out]; exact ho, hb⟩, by simp [intOf]; try omega⟩
        · obtain rfl : q = K := by omega
          rw [List.take_of_length_le (by rw [hcl.out]; omega)] at hY
          have hO := hO.below hD
          have hB := bt_ hB hD
          have hw' := hw'.below hB
          go_wp2_with fail
          refine (rPoints_c _ _ _ hw' hwl.out).mono ?_
          rintro e w4 ⟨vP, rfl, sP, h4⟩
          replace sP := sP.rk
          have hY := (hY.below h4).rk
          have hO := hO.below h4
          have hB := bt_ hB h4
          clear h4 hw'
          have hN := Lib.hid (F.nwt_thr (ys := F.colOf (parts.take q) k) hNd.out (by rw [hxl.out]; exact hK))
          have hD2 := Lib.hid (F.dot_wts ((who.take q).map point) (F.colOf (parts.take q) k) (point t) (by rw [hxl.out]; exact hK))
          go_wp2_with fail
          refine (rThrough_c _ _ _ _ _ sP hY (by rw [hxl.out, hcl.out]) (by rw [hxl.out]; omega)).mono ?_
          rintro e w6 ⟨z, rfl, sz, h6⟩
          have hO := hO.below h6
          have hB := bt_ hB h6
          clear h6
          rw [hN.out] at sz
          replace sz := sz.rk
          go_wp2_with fail
          refine (rPoint_c t _).mono ?_
          rintro e w_ ⟨rfl, rfl⟩
          go_wp2_with fail
          refine (rEval_c _ _ (point t) _ sz).mono ?_
          rintro e w_ ⟨rfl, rfl⟩
          rw [← hD2.out]
          have hlen : ((List.range k).map fun j => dot (F.wts ((who.take q).map point) (point t)) (F.colOf (parts.take q) j)).length ≤ 1000 := by rw [List.length_map, List.length_range]; omega
          generalize hy : dot (F.wts ((who.take q).map point) (point t)) (F.colOf (parts.take q) k) = y at *
          replace hy := Lib.hid hy
          go_wp2_with (at_builtin; refine app_one (enc := bV) rfl (.tmp 41) (.tmp 51) 40 5 (.int .u8 0) 1 rfl Try.underlying40 infoB rfl (by decide) _ _ y rfl rfl _ (bV_eq ?hc) hO hB ?hl ?_; (case hc => (first | exact rfl | exact rfl)); (case hl => (first | (simp; omega) | omega)); intro v1 w1 ho hb hg)
          exact ⟨⟨k + 1, by omega, by go_num, by rw [HS.out]; exact ho, hb⟩, by simp [intOf]; try omega⟩
    · obtain rfl : k = n := by omega
      go_wp2
      go_ret
      exact ⟨_, rfl, hO, hB⟩
end Go.Proofs.Ytijeabhfddaoaaa
