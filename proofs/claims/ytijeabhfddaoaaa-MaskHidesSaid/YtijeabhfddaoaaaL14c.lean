/- The walks of the laws of layer 14 (masks): MaskShifts whole, MaskTurns. -/
import Derived.Test.YtijeabhfddaoaaaL14b
import Derived.Test.YtijeabhfddaoaaaRow
namespace Go.Proofs.Ytijeabhfddaoaaa
set_option linter.unusedVariables false
open Go.RowKit Go.Proofs.YtijeabhfddaoaaaW.PrintWords Go.Proofs.Sh

theorem lite_lt {p : Pl} (h : Lite p) : p.T + p.L < 255 := by obtain ⟨_, h2, h3⟩ := h; omega
theorem MaskShifts_walk (w : World) (N : Int) (hN : -9223372036854775808 ≤ N ∧ N ≤ 9223372036854775807) (T : Int) (hT : -9223372036854775808 ≤ T ∧ T ≤ 9223372036854775807) (L : Int) (hL : -9223372036854775808 ≤ L ∧ L ≤ 9223372036854775807) (W : Int) (hW : -9223372036854775808 ≤ W ∧ W ≤ 9223372036854775807) (S : Int) (hS : -9223372036854775808 ≤ S ∧ S ≤ 9223372036854775807) (R : Int) (hR : -9223372036854775808 ≤ R ∧ R ≤ 9223372036854775807) (v : Value) (l : List F) (hv : Rb w v l) (u : Value) (zs : List Int) (hu : Ri w u zs) (qu : ∀ y ∈ zs, I64 y) :
   Calls Try.prog 29 #[.agg #[.int .i64 N, .int .i64 T, .int .i64 L, .int .i64 W, .int .i64 S, .int .i64 R], v, u] w fun e w' => e = .returned (.bool true) ∧ Below w.heap.size w w' := by
  by_cases hf : Lite ⟨N, T, L, W, S, R⟩ ∧ l.length ≤ 20 ∧ zs.length ≤ 20
  · by_cases h : (Pl.mk N T L W S R).Ok
    · by_cases ha : maE ⟨N, T, L, W, S, R⟩ l.length zs = 0
      · exact maskShifts_ok _ h (lite_lt hf.1) v u l zs w hv hu hf.1 hf.2.1 hf.2.2 ha
      · exact maskShifts_bad _ h v u l zs w hv hu hf.1 hf.2.1 hf.2.2 ha
    · exact maskShifts_no _ ⟨hN, hT, hL, hW, hS, hR⟩ h v u l zs w hv hu hf.1 hf.2.1 hf.2.2
  · exact maskShifts_far ⟨N, T, L, W, S, R⟩ v u l zs w hv hu hf
/-! ### MaskTurns -/
set_option maxRecDepth 100000 in
set_option maxHeartbeats 3200000 in
theorem maskTurns_far (p : Pl) (v u : Value) (d : List F) (zs : List Int) (w : World) (hv : Rb w v d) (hu : Ri w u zs) (h : ¬ Lite p) :
   Calls Try.prog 30 #[planV p, v, u] w fun e w' => e = .returned (.bool true) ∧ Below w.heap.size w w' := by
  have hL := Lib.hid (decide_eq_false h)
  clear h
  have HP := Blk.new w (planC p) 33
  have hB := below_alloc (Below.refl w.heap.size w) (.cells (planC p) 33)
  have hv := hv.below hB
  have hu := hu.below hB
  obtain ⟨Ad, cd, rfl, hcd, hrd⟩ := hv
  have hld := kb_len hrd
  have hv : Rb _ (.slice Ad d.length cd) d := ⟨Ad, cd, rfl, hcd, hrd⟩
  obtain ⟨Az, cz, rfl, hcz, hrz⟩ := hu
  have hlz := ri_len hrz
  have hu : Ri _ (.slice Az zs.length cz) zs := ⟨Az, cz, rfl, hcz, hrz⟩
  clear hrd hrz
  go_enter Try.func30, Try.ntmps30
  go_wp2_with fail
  generalize w.alloc (.cells (planC p) 33) = w1 at *
  obtain ⟨c0, c1, c2, c3, c4, c5⟩ := cells6 HP
  refine (light_c p _).mono ?_
  rintro e w2 ⟨rfl, h2⟩
  rw [hL.out]
  have HP := HP.below h2
  have hv := hv.below h2
  have hu := hu.below h2
  have hB := bt_ hB h2
  obtain ⟨c0, c1, c2, c3, c4, c5⟩ := cells6 HP
  clear h2
  go_wp2_with fail
  refine (alive14 _).mono ?_
  rintro e w9 ⟨rfl, h⟩
  have hB := bt_ hB h
  clear h
  go_wp2
  go_ret
  exact ⟨rfl, hB⟩
set_option maxRecDepth 100000 in
set_option maxHeartbeats 3200000 in
theorem maskTurns_no (p : Pl) (hi : p.In) (h : ¬ p.Ok) (v u : Value) (d : List F) (zs : List Int) (w : World) (hv : Rb w v d) (hu : Ri w u zs) (hL : Lite p) :
   Calls Try.prog 30 #[planV p, v, u] w fun e w' => e = .returned (.bool true) ∧ Below w.heap.size w w' := by
  replace hL := Lib.hid (decide_eq_true hL)
  have HP := Blk.new w (planC p) 33
  have hB := below_alloc (Below.refl w.heap.size w) (.cells (planC p) 33)
  have hv := hv.below hB
  have hu := hu.below hB
  obtain ⟨Ad, cd, rfl, hcd, hrd⟩ := hv
  have hld := kb_len hrd
  have hv : Rb _ (.slice Ad d.length cd) d := ⟨Ad, cd, rfl, hcd, hrd⟩
  obtain ⟨Az, cz, rfl, hcz, hrz⟩ := hu
  have hlz := ri_len hrz
  have hu : Ri _ (.slice Az zs.length cz) zs := ⟨Az, cz, rfl, hcz, hrz⟩
  clear hrd hrz
  go_enter Try.func30, Try.ntmps30
  go_wp2_with fail
  generalize w.alloc (.cells (planC p) 33) = w1 at *
  obtain ⟨c0, c1, c2, c3, c4, c5⟩ := cells6 HP
  refine (light_c p _).mono ?_
  rintro e w2 ⟨rfl, h2⟩
  rw [hL.out]
  have HP := HP.below h2
  have hv := hv.below h2
  have hu := hu.below h2
  have hB := bt_ hB h2
  obtain ⟨c0, c1, c2, c3, c4, c5⟩ := cells6 HP
  clear h2
  go_wp2_with fail
  refine (rCheck14_no p hi h _ _ _).mono ?_
  rintro e w7 ⟨rfl, h7⟩
  have hB := bt_ hB h7
  go_wp2_with fail
  refine (alive14 _).mono ?_
  rintro e w9 ⟨rfl, h⟩
  have hB := bt_ hB h
  clear h
  go_wp2
  go_ret
  exact ⟨rfl, hB⟩
set_option maxRecDepth 100000 in
set_option maxHeartbeats 3200000 in
theorem maskTurns_bad (p : Pl) (h : p.Ok) (v u : Value) (d : List F) (zs : List Int) (w : World) (hv : Rb w v d) (hu : Ri w u zs) (hL : Lite p) (ha : maE p d.length zs ≠ 0) :
   Calls Try.prog 30 #[planV p, v, u] w fun e w' => e = .returned (.bool true) ∧ Below w.heap.size w w' := by
  replace hL := Lib.hid (decide_eq_true hL)
  have t9 : (maE p d.length zs != 0) = true := bne_iff_ne.2 ha
  replace ha := Lib.hid ha
  have HP := Blk.new w (planC p) 33
  have hB := below_alloc (Below.refl w.heap.size w) (.cells (planC p) 33)
  have hv := hv.below hB
  have hu := hu.below hB
  obtain ⟨Ad, cd, rfl, hcd, hrd⟩ := hv
  have hld := kb_len hrd
  have hv : Rb _ (.slice Ad d.length cd) d := ⟨Ad, cd, rfl, hcd, hrd⟩
  obtain ⟨Az, cz, rfl, hcz, hrz⟩ := hu
  have hlz := ri_len hrz
  have hu : Ri _ (.slice Az zs.length cz) zs := ⟨Az, cz, rfl, hcz, hrz⟩
  clear hrd hrz
  go_enter Try.func30, Try.ntmps30
  go_wp2_with fail
  generalize w.alloc (.cells (planC p) 33) = w1 at *
  obtain ⟨c0, c1, c2, c3, c4, c5⟩ := cells6 HP
  refine (light_c p _).mono ?_
  rintro e w2 ⟨rfl, h2⟩
  rw [hL.out]
  have HP := HP.below h2
  have hv := hv.below h2
  have hu := hu.below h2
  have hB := bt_ hB h2
  obtain ⟨c0, c1, c2, c3, c4, c5⟩ := cells6 HP
  clear h2
  go_wp2_with fail
  refine (rCheck14_c p h _ _ d zs _ hv hu).mono ?_
  rintro e w7 ⟨rfl, h7⟩
  have hB := bt_ hB h7
  go_wp2_with fail
  refine (alive14 _).mono ?_
  rintro e w9 ⟨rfl, h⟩
  have hB := bt_ hB h
  clear h
  go_wp2
  go_ret
  exact ⟨rfl, hB⟩
theorem rev_take_succ (l : List Int) (k : Nat) (h : k < l.length) : (l.take (k + 1)).reverse = [l.getD k 0] ++ (l.take k).reverse := by
  rw [take_snoc' l k 0 h, List.reverse_append, List.reverse_singleton]
theorem nodup_rev {l : List Int} (h : l.Nodup) : l.reverse.Nodup := by
  rw [List.nodup_iff_pairwise_ne, List.pairwise_reverse]
  exact (List.nodup_iff_pairwise_ne.1 h).imp Ne.symm
theorem maE_rev (p : Pl) (d : Nat) (zs : List Int) (h : maE p d zs = 0) : maE p d zs.reverse = 0 := by
  obtain ⟨h1, h2, h3, h4⟩ := ma_zero h
  have e1 : zs.reverse.any (bad0 p) = false := by
    rw [List.any_reverse]
    cases hb : zs.any (bad0 p) with
    | false => rfl
    | true =>
      obtain ⟨i, hi, hq⟩ := List.any_eq_true.1 hb
      unfold bad0 at hq
      rw [decide_eq_true (h4 i hi)] at hq
      exact absurd hq (by decide)
  unfold maE
  rw [if_neg (fun e => e h1), List.length_reverse, if_neg (by omega), if_neg (by rw [e1]; simp), if_neg (fun e => e (nodup_rev h3))]
set_option maxRecDepth 100000 in
set_option maxHeartbeats 3200000 in
theorem maskTurns_ok (p : Pl) (h : p.Ok) (hK : p.T + p.L < 255) (v u : Value) (d : List F) (zs : List Int) (w : World) (hv : Rb w v d) (hu : Ri w u zs) (hL : Lite p) (ha : maE p d.length zs = 0) :
   Calls Try.prog 30 #[planV p, v, u] w fun e w' => e = .returned (.bool true) ∧ Below w.heap.size w w' := by
  replace hL := Lib.hid (decide_eq_true hL)
  have hz := Lib.hid (ma_zero ha)
  have hl1 : zs.length ≤ 1000 := by have := hz.out.2.1; have := h.t; have := h.l; have := h.tl; have := h.wn; have := h.nl; omega
  have hrev := Lib.hid (maE_rev p d.length zs ha)
  have hsame : Hid (shOf p d zs = shOf p d zs.reverse) := Lib.hid (sh_turn p h hK d zs zs.reverse hz.out.1 hz.out.2.1 hz.out.2.2.1 hz.out.2.2.2 (List.length_reverse ..) (nodup_rev hz.out.2.2.1) (fun i => List.mem_reverse)).symm
  replace ha := Lib.hid ha
  have HP := Blk.new w (planC p) 33
  have hB := below_alloc (Below.refl w.heap.size w) (.cells (planC p) 33)
  have hv := hv.below hB
  have hu := hu.below hB
  obtain ⟨Ad, cd, rfl, hcd, hrd⟩ := hv
  have hld := kb_len hrd
  have hv : Rb _ (.slice Ad d.length cd) d := ⟨Ad, cd, rfl, hcd, hrd⟩
  obtain ⟨Az, cz, rfl, hcz, hrz⟩ := hu
  have hlz := ri_len hrz
  have hu : Ri _ (.slice Az zs.length cz) zs := ⟨Az, cz, rfl, hcz, hrz⟩
  clear hrd hrz
  go_enter Try.func30, Try.ntmps30
  go_wp2_with fail
  generalize w.alloc (.cells (planC p) 33) = w1 at *
  obtain ⟨c0, c1, c2, c3, c4, c5⟩ := cells6 HP
  refine (light_c p _).mono ?_
  rintro e w2 ⟨rfl, h2⟩
  rw [hL.out]
  have HP := HP.below h2
  have hv := hv.below h2
  have hu := hu.below h2
  have hB := bt_ hB h2
  obtain ⟨c0, c1, c2, c3, c4, c5⟩ := cells6 HP
  clear h2
  go_wp2_with fail
  refine (rCheck14_c p h _ _ d zs _ hv hu).mono ?_
  rintro e w7 ⟨rfl, h7⟩
  rw [ha.out]
  have hv := hv.below h7
  have hu := hu.below h7
  have HP := HP.below h7
  have hB := bt_ hB h7
  have hr := rk_C hu
  clear h7 c0 c1 c2 c3 c4 c5
  go_wp2_with fail
  go_loopw [7, 9, 28] (fun t _ i wr => ∃ k : Nat, k ≤ zs.length ∧ i = .int .i64 k ∧ Oi w7 wr t (zs.take k).reverse ∧ Below w7.heap.size w7 wr) (fun _ _ i _ => zs.length - (intOf i).toNat)
  case atStart => exact ⟨0, by omega, rfl, by simpa using Own.nil _ _ w7 w7, Below.refl _ _⟩
  case round =>
    obtain ⟨k, hk, rfl, hO, hb⟩ := hrel
    by_cases hlt : k < zs.length
    · obtain ⟨ad, rfl, d0⟩ := ki_at hr k hlt
      have d0 := pw_cell_below hb d0
      have hst := Lib.hid (rev_take_succ zs k hlt)
      obtain ⟨A9, n9, rfl⟩ := rk_form hO.rk
      have hlen : Hid ((zs.take k).reverse.length ≤ 1000) := Lib.hid (by rw [List.length_reverse, List.length_take]; omega)
      generalize zs.getD k 0 = x at *
      generalize (zs.take k).reverse = t at *
      have hO1 := lit_ownI (w0 := w7) (W := wr) [x] #[.int .i64 x] rfl 1 rfl (by decide) hb.size
      have hb1 := below_alloc hb (.cells #[.int .i64 x] 3)
      have hO2 := hO.rk.alloc (.cells #[.int .i64 x] 3)
      have hbound : ([x].length + t.length) * 8 ≤ 140737488355328 := by have := hlen.out; simp; omega
      go_wp2_with (at_builtin; refine app_many (enc := Value.int .i64) rfl (.tmp 33) (.tmp 34) 36 3 (.int .i64 0) 8 rfl Try.underlying36 infoI rfl (by decide) _ [x] t _ rfl rfl hO1 hO2 hb1 ?hl ?_; (case hl => exact hbound); intro v1 w1 ho hb hg)
      exact ⟨⟨k + 1, by omega, by go_num, by rw [hst.out]; exact ho, hb⟩, by simp [intOf]; try omega⟩
    · obtain rfl : k = zs.length := by omega
      rw [List.take_length] at hO
      have hv := hv.below hb
      have hu := hu.below hb
      have HP := HP.below hb
      have hB := bt_ hB hb
      have hT := hO.rk
      obtain ⟨c0, c1, c2, c3, c4, c5⟩ := cells6 HP
      go_wp2_with fail
      refine (new_x _).mono ?_
      rintro e w8 ⟨bF, rfl, hF, h8⟩
      have hv := hv.below h8
      have hu := hu.below h8
      have hT := hT.below h8
      have HP := HP.below h8
      have hB := bt_ hB h8
      obtain ⟨c0, c1, c2, c3, c4, c5⟩ := cells6 HP
      clear h8
      go_wp2_with fail
      refine (mShift_ok bF p h hK _ _ d zs _ hF hv hu ha.out).mono ?_
      rintro e w10 ⟨vA, rfl, oA, h10⟩
      have hv := hv.below h10
      have hT := hT.below h10
      have hF := hF.below h10
      have HP := HP.below h10
      have hB := bt_ hB h10
      obtain ⟨c0, c1, c2, c3, c4, c5⟩ := cells6 HP
      clear h10
      go_wp2_with fail
      refine (mShift_ok bF p h hK _ _ d zs.reverse _ hF hv hT hrev.out).mono ?_
      rintro e w11 ⟨vC, rfl, oC, h11⟩
      have oA := oA.rk.below h11
      replace oC := oC.rk
      have hB := bt_ hB h11
      clear h11
      go_wp2_with fail
      refine (rSame_c _ _ (shOf p d zs) (shOf p d zs.reverse) _ oA oC).mono ?_
      rintro e w12 ⟨rfl, h12⟩
      have hB := bd hB h12
      rw [decide_eq_true hsame.out]
      go_wp2_with fail
      refine (alive14 _).mono ?_
      rintro e w9 ⟨rfl, h⟩
      have hB := bt_ hB h
      clear h
      go_wp2
      go_ret
      exact ⟨rfl, hB⟩
theorem MaskTurns_walk (w : World) (N : Int) (hN : -9223372036854775808 ≤ N ∧ N ≤ 9223372036854775807) (T : Int) (hT : -9223372036854775808 ≤ T ∧ T ≤ 9223372036854775807) (L : Int) (hL : -9223372036854775808 ≤ L ∧ L ≤ 9223372036854775807) (W : Int) (hW : -9223372036854775808 ≤ W ∧ W ≤ 9223372036854775807) (S : Int) (hS : -9223372036854775808 ≤ S ∧ S ≤ 9223372036854775807) (R : Int) (hR : -9223372036854775808 ≤ R ∧ R ≤ 9223372036854775807) (v : Value) (l : List F) (hv : Rb w v l) (u : Value) (zs : List Int) (hu : Ri w u zs) (qu : ∀ y ∈ zs, I64 y) :
   Calls Try.prog 30 #[.agg #[.int .i64 N, .int .i64 T, .int .i64 L, .int .i64 W, .int .i64 S, .int .i64 R], v, u] w fun e w' => e = .returned (.bool true) ∧ Below w.heap.size w w' := by
  by_cases hf : Lite ⟨N, T, L, W, S, R⟩
  · by_cases h : (Pl.mk N T L W S R).Ok
    · by_cases ha : maE ⟨N, T, L, W, S, R⟩ l.length zs = 0
      · exact maskTurns_ok _ h (lite_lt hf) v u l zs w hv hu hf ha
      · exact maskTurns_bad _ h v u l zs w hv hu hf ha
    · exact maskTurns_no _ ⟨hN, hT, hL, hW, hS, hR⟩ h v u l zs w hv hu hf
  · exact maskTurns_far ⟨N, T, L, W, S, R⟩ v u l zs w hv hu hf
end Go.Proofs.Ytijeabhfddaoaaa
