/- The walk of matrix.Powers. -/
import Derived.Test.YtijeabhfddaoaaaMl
namespace Go.Proofs.Ytijeabhfddaoaaa
set_option linter.unusedVariables false
set_option linter.unusedSimpArgs false
open Go.RowKit Go.Proofs.YtijeabhfddaoaaaW.PrintWords Go.Proofs.Sh

set_option maxRecDepth 100000 in
set_option maxHeartbeats 1600000 in
theorem mPowers_c (b : Nat) (v : Value) (xs : List F) (n : Nat) (w : World) (hF : IsField w b) (hv : Rb w v xs) (hl : xs.length ≤ 1000) (hn : n ≤ 256) :
   Calls Try.prog 134 #[fp b, v, .int .i64 (n : Int)] w fun e w' => ∃ z, e = .returned z ∧ Obb w w' z (powM xs n) ∧ Below w.heap.size w w' := by
  obtain ⟨A, c, rfl⟩ := rk_form hv
  have hc := fun W => Lib.hid (count_c n hn W)
  go_enter Try.func134, Try.ntmps134
  go_wp2_with ((with_reducible refine gate_dst (N := 14) rfl ?_); refine mk_cap kbb rfl 66 40 _ _ rfl .i64 _ rfl rfl Try.underlying66 (.slice none 0 0) 24 infoR (by decide) ?h0 ?hl (Below.refl w.heap.size w) ?_; (case h0 => omega); (case hl => omega); intro v1 w1 ho hb9 hg; replace ho : Obb w w1 v1 [] := ho)
  have hB := hb9
  clear hb9 hg
  go_loopw [7, 17] (fun s i wr => ∃ k : Nat, k ≤ xs.length ∧ i = .int .i64 k ∧ Obb w wr s (powM (xs.take k) n) ∧ Below w.heap.size w wr) (fun _ i _ => xs.length - (intOf i).toNat)
  case atStart => exact ⟨0, by omega, rfl, ho, hB⟩
  case round =>
    clear ho hB
    obtain ⟨k, hk, rfl, oM, hB⟩ := hrel
    by_cases hlt : k < xs.length
    · obtain ⟨ad, e1, d1⟩ := kb_at (rk_C hv) k hlt
      subst e1
      have e0 := pw_cell_below hB d1
      have HS : Hid (powM (xs.take (k + 1)) n = powM (xs.take k) n ++ [rw_ n (F.pw (xs.getD k 0))]) := Lib.hid (by unfold powM; rw [take_snoc' xs k 0 hlt, List.map_append]; rfl)
      have hlen : Hid ((powM (xs.take k) n).length + 1 ≤ 5000000000) := Lib.hid (by unfold powM; rw [List.length_map, List.length_take]; omega)
      generalize xs.getD k 0 = x at *
      generalize powM (xs.take k) n = M at *
      go_wp2_with fail
      refine (hc _).out.mono ?_
      rintro e w2 ⟨rfl, rfl⟩
      go_wp2_with ((with_reducible refine gate_dst (N := 23) rfl ?_); refine mk_cap kb rfl 40 5 _ _ rfl .i64 _ rfl rfl Try.underlying40 (.int .u8 0) 1 infoB (by decide) ?h0 ?hl (Below.refl wr.heap.size wr) ?_; (case h0 => omega); (case hl => omega); intro v2 w2 ho2 hb2 hg2; replace ho2 : Ob wr w2 v2 [] := ho2)
      refine (hc _).out.mono ?_
      rintro e w3 ⟨rfl, rfl⟩
      go_wp2_with fail
      go_loopw [10, 26] (fun s j ws => ∃ j' : Nat, j' ≤ n ∧ j = .int .i64 j' ∧ Ob wr ws s (rw_ j' (F.pw x)) ∧ Below wr.heap.size wr ws) (fun _ j _ => n - (intOf j).toNat)
      case atStart => exact ⟨0, by omega, rfl, ho2, hb2⟩
      case round =>
        clear ho2 hb2 hg2
        obtain ⟨j, hj, rfl, oR, hD⟩ := hrel
        by_cases hlt2 : j < n
        · have HR : Hid (rw_ (j + 1) (F.pw x) = rw_ j (F.pw x) ++ [F.pw x j]) := Lib.hid (by unfold rw_; rw [List.range_succ, List.map_append]; rfl)
          have hlr : Hid ((rw_ j (F.pw x)).length + 1 ≤ 1000000) := Lib.hid (by rw [rw_len]; omega)
          have hF' := hF.below (bt_ hB hD)
          have hpz := Lib.hid (F.pwZ_nat x j)
          generalize rw_ j (F.pw x) = R at *
          go_wp2_with fail
          refine (pow_c b x (j : Int) _ hF' _ rfl).mono ?_
          rintro e w4 ⟨rfl, h4⟩
          have oR2 : Ob _ w4 _ _ := oR.drawn h4
          have hD2 := bd hD h4
          rw [hpz.out]
          have hlr9 := hlr.out
          go_wp2_with (at_builtin; refine app_one (enc := bV) rfl (.tmp 29) (.tmp 34) 40 5 (.int .u8 0) 1 rfl Try.underlying40 infoB rfl (by decide) _ _ (F.pw x j) rfl rfl _ (bV_eq ?hc) oR2 hD2 ?hl ?_; (case hc => (first | exact rfl | exact rfl)); (case hl => (first | (simp; omega) | omega)); intro v1 w1 ho hb hg)
          exact ⟨⟨j + 1, by omega, by go_num, by rw [HR.out]; exact ho, hb⟩, by simp [intOf]; try omega⟩
        · obtain rfl : j = n := by omega
          have hlen9 := hlen.out
          replace oR := oR.lower (w0 := w) hB
          have oM1 := oM.below hD
          have hB1 := bt_ hB hD
          generalize (rw_ j (F.pw x)) = R at *
          obtain ⟨A2, c2, rfl⟩ := rk_form oR.rk
          go_wp2_with (at_builtin; refine app_row rfl (.tmp 37) (.tmp 39) 66 40 rfl Try.underlying66 infoR (by decide) _ _ _ _ rfl rfl oM1 oR hB1 ?hl ?_; (case hl => (first | (simp; omega) | omega)); intro v1 w1 ho hb hg)
          exact ⟨⟨k + 1, by omega, by go_num, by rw [HS.out]; exact ho, hb⟩, by simp [intOf]; try omega⟩
    · obtain rfl : k = xs.length := by omega
      rw [List.take_length] at oM
      go_wp2
      go_ret
      exact ⟨_, rfl, oM, hB⟩
end Go.Proofs.Ytijeabhfddaoaaa
