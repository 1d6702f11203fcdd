/- The walk of matrix.Mul. -/
import Derived.Test.YtijeabhfddaoaaaMw
namespace Go.Proofs.Ytijeabhfddaoaaa
set_option linter.unusedVariables false
open Go.RowKit Go.Proofs.YtijeabhfddaoaaaW.PrintWords Go.Proofs.Sh

/-- The product, as the code tells it. -/
def mulC (a b : List (List F)) : List (List F) := a.map fun r => (colsOf b).map (dot r)
set_option maxRecDepth 100000 in
set_option maxHeartbeats 1600000 in
theorem mMul4_no (fv v u : Value) (a b : List (List F)) (w : World) (hv : Rbb w v a) (hu : Rbb w u b) (h : allW (b.length : Int) a = false ∨ b.length ≠ 0 ∧ allW ((b.getD 0 []).length : Int) b = false) :
   Calls Try.prog 121 #[fv, v, u] w fun e w' => e = .returned (.tuple #[.slice none 0 0, .bool false]) ∧ Below w.heap.size w w' := by
  obtain ⟨B, d, rfl⟩ := rk_form hu
  by_cases h1 : allW (b.length : Int) a = false
  · have hc := Lib.hid (wide_c v a (b.length : Int) w hv)
    rw [h1] at hc
    clear h h1
    go_enter Try.func121, Try.ntmps121
    go_wp2_with fail
    refine hc.out.mono ?_
    rintro e w1 ⟨rfl, hB⟩
    go_wp2
    go_ret2
    exact ⟨rfl, hB⟩
  · obtain ⟨h0, h2⟩ := h.resolve_left h1
    have hc := Lib.hid (wide_c v a (b.length : Int) w hv)
    rw [eq_true_of_ne_false h1] at hc
    have hpos : 0 < b.length := by omega
    have hpos2 : decide ((0 : Int) < (b.length : Int)) = true := decide_eq_true (by omega)
    obtain ⟨ad, u0, rfl, d0, hu0⟩ := kbb_at (rk_C hu) 0 hpos
    rw [add_0] at d0
    obtain ⟨A0, c0, rfl⟩ := rk_form hu0
    have hc2 := fun V h => Lib.hid (wide_c (.slice (some ad) b.length d) b ((b.getD 0 []).length : Int) V h)
    rw [h2] at hc2
    clear h h1 h2 hu0
    generalize (b.getD 0 []).length = W at *
    go_enter Try.func121, Try.ntmps121
    go_wp2_with fail
    refine hc.out.mono ?_
    rintro e w1 ⟨rfl, hB⟩
    have e0 := pw_cell_below hB d0
    go_wp2_with fail
    refine (hc2 _ (hu.below hB)).out.mono ?_
    rintro e w2 ⟨rfl, hB2⟩
    go_wp2
    go_ret2
    exact ⟨rfl, bt_ hB hB2⟩
theorem below_grown9 {w w1 : World} (h : w.grownBy w1 none) : Below w.heap.size w w1 := ⟨h.os, h.tape, h.output, h.size, fun i hi => h.block i hi (by simp)⟩
set_option maxRecDepth 100000 in
set_option maxHeartbeats 1600000 in
theorem mMul4_ok (b9 : Nat) (v u : Value) (a b : List (List F)) (w : World) (hF : IsField w b9) (hv : Rbb w v a) (hu : Rbb w u b) (h1 : allW (b.length : Int) a = true) (ha : a.length ≤ 1000) (hb : b.length ≤ 1000) (hr : ∀ j, j < b.length → (b.getD j []).length = (b.getD 0 []).length) (hr0 : (b.getD 0 []).length ≤ 1000) :
   Calls Try.prog 121 #[fp b9, v, u] w fun e w' => ∃ z, e = .returned (.tuple #[z, .bool true]) ∧ Obb w w' z (mulC a b) ∧ Below w.heap.size w w' := by
  obtain ⟨B, d, rfl⟩ := rk_form hu
  obtain ⟨A, c, rfl⟩ := rk_form hv
  by_cases h0 : b.length = 0
  · obtain rfl : b = [] := List.eq_nil_of_length_eq_zero h0
    have hc : Hid (Calls Try.prog 172 #[.slice A a.length c, .int .i64 0] w fun e w' => e = .returned (.bool true) ∧ Below w.heap.size w w') := Lib.hid (by
      have := wide_c _ a ((([] : List (List F)).length : Nat) : Int) w hv
      rw [h1] at this
      exact this)
    have hu : Rbb w (.slice B 0 d) [] := hu
    have hcr := fun V h => Lib.hid (turned_c (.slice B 0 d) [] V h hb hr hr0)
    have hCl : (colsOf []).length ≤ 1000 := by decide
    clear h1 hr hr0 h0 hb
    go_enter Try.func121, Try.ntmps121
    go_wp2_with fail
    refine hc.out.mono ?_
    rintro e w1 ⟨rfl, hB⟩
    go_wp2_with fail
    refine (hcr _ (hu.below hB)).out.mono ?_
    rintro e w3 ⟨z, rfl, hZ, hB3⟩
    have hB0 := bt_ hB hB3
    clear hB3 hcr hB
    replace hv := hv.below hB0
    replace hF := hF.below hB0
    obtain ⟨Az, cz, rfl⟩ := rk_form hZ
    generalize hC : colsOf [] = C at *
    have hMC : Hid (mulC a [] = a.map fun r => C.map (dot r)) := Lib.hid (by rw [← hC]; rfl)
    clear hC
    go_wp2_with ((with_reducible refine gate_dst (N := 38) rfl ?_); refine mk_cap kbb rfl 66 40 _ _ rfl .i64 _ rfl rfl Try.underlying66 (.slice none 0 0) 24 infoR (by decide) ?h0 ?hl (Below.refl w3.heap.size w3) ?_; (case h0 => omega); (case hl => omega); intro v1 w1 ho hb9 hg; replace ho : Obb w3 w1 v1 [] := ho)
    have hB := hb9
    clear hb9 hg
    go_loopw [9, 41] (fun s i wr => ∃ k : Nat, k ≤ a.length ∧ i = .int .i64 k ∧ Obb w3 wr s ((a.take k).map fun r => C.map (dot r)) ∧ Below w3.heap.size w3 wr) (fun _ i _ => a.length - (intOf i).toNat)
    case atStart => exact ⟨0, by omega, rfl, ho, hB⟩
    case round =>
      clear ho hB
      obtain ⟨k, hk, rfl, oM, hB⟩ := hrel
      by_cases hlt : k < a.length
      · obtain ⟨ada, u1, rfl, d1, hu1⟩ := kbb_at (rk_C hv) k hlt
        have e0 := pw_cell_below hB d1
        have HS : Hid (((a.take (k + 1)).map fun r => C.map (dot r)) = ((a.take k).map fun r => C.map (dot r)) ++ [C.map (dot (a.getD k []))]) := Lib.hid (by rw [take_snoc' a k [] hlt, List.map_append]; rfl)
        have hlen : Hid (((a.take k).map fun r => C.map (dot r)).length + 1 ≤ 5000000000) := Lib.hid (by rw [List.length_map, List.length_take]; omega)
        generalize a.getD k [] = r at *
        generalize ((a.take k).map fun r => C.map (dot r)) = M at *
        go_wp2_with ((with_reducible refine gate_dst (N := 47) rfl ?_); refine mk_cap kb rfl 40 5 _ _ rfl .i64 _ rfl rfl Try.underlying40 (.int .u8 0) 1 infoB (by decide) ?h0 ?hl (Below.refl wr.heap.size wr) ?_; (case h0 => omega); (case hl => omega); intro v2 w2 ho2 hb2 hg2; replace ho2 : Ob wr w2 v2 [] := ho2)
        go_loopw [12, 50] (fun s j ws => ∃ j' : Nat, j' ≤ C.length ∧ j = .int .i64 j' ∧ Ob wr ws s ((C.take j').map (dot r)) ∧ Below wr.heap.size wr ws) (fun _ j _ => C.length - (intOf j).toNat)
        case atStart => exact ⟨0, by omega, rfl, ho2, hb2⟩
        case round =>
          clear ho2 hb2 hg2
          obtain ⟨j, hj, rfl, oR, hD⟩ := hrel
          by_cases hlt2 : j < C.length
          · obtain ⟨adz, u2, q2, d2, hu2⟩ := kbb_at (rk_C hZ) j hlt2
            subst q2
            have e2 := pw_cell_below (bt_ hB hD) d2
            have HR : Hid (((C.take (j + 1)).map (dot r)) = ((C.take j).map (dot r)) ++ [dot r (C.getD j [])]) := Lib.hid (by rw [take_snoc' C j [] hlt2, List.map_append]; rfl)
            have hlr : Hid (((C.take j).map (dot r)).length + 1 ≤ 1000000) := Lib.hid (by rw [List.length_map, List.length_take]; omega)
            have hF' := hF.below (bt_ hB hD)
            have hx1 := hu1.below (bt_ hB hD)
            have hx2 := hu2.below (bt_ hB hD)
            generalize C.getD j [] = q at *
            generalize ((C.take j).map (dot r)) = R at *
            go_wp2_with fail
            refine (fDot_c b9 u1 u2 r q _ hF' hx1 hx2).mono ?_
            rintro e w4 ⟨rfl, h4⟩
            have oR2 : Ob _ w4 _ _ := oR.drawn h4
            have hD2 := bd hD h4
            have hlr9 := hlr.out
            go_wp2_with (at_builtin; refine app_one (enc := bV) rfl (.tmp 54) (.tmp 59) 40 5 (.int .u8 0) 1 rfl Try.underlying40 infoB rfl (by decide) _ _ (dot r q) rfl rfl _ (bV_eq ?hc) oR2 hD2 ?hl ?_; (case hc => (first | exact rfl | exact rfl)); (case hl => (first | (simp; omega) | omega)); intro v1 w1 ho hb hg)
            exact ⟨⟨j + 1, by omega, by go_num, by rw [HR.out]; exact ho, hb⟩, by simp [intOf]; try omega⟩
          · obtain rfl : j = C.length := by omega
            rw [List.take_length] at oR
            have hlen9 := hlen.out
            replace oR := oR.lower (w0 := w3) hB
            have oM1 := oM.below hD
            have hB1 := bt_ hB hD
            generalize (C.map (dot r)) = R at *
            obtain ⟨A2, c2, rfl⟩ := rk_form oR.rk
            go_wp2_with (at_builtin; refine app_row rfl (.tmp 62) (.tmp 64) 66 40 rfl Try.underlying66 infoR (by decide) _ _ _ _ rfl rfl oM1 oR hB1 ?hl ?_; (case hl => (first | (simp; omega) | omega)); intro v1 w1 ho hb hg)
            exact ⟨⟨k + 1, by omega, by go_num, by rw [HS.out]; exact ho, hb⟩, by simp [intOf]; try omega⟩
      · obtain rfl : k = a.length := by omega
        rw [List.take_length] at oM
        go_wp2
        go_ret2
        exact ⟨_, rfl, by rw [hMC.out]; exact oM.lower hB0, bt_ hB0 hB⟩
  · have hc := Lib.hid (wide_c _ a (b.length : Int) w hv)
    rw [h1] at hc
    have hcr := fun V h => Lib.hid (turned_c (.slice B b.length d) b V h hb hr hr0)
    have hCl : (colsOf b).length ≤ 1000 := by rw [colsOf, List.length_map, List.length_range]; exact hr0
    have hall := allW_iff.2 hr
    clear h1 hr hr0
    have hpos : 0 < b.length := by omega
    have hpos2 : decide ((0 : Int) < (b.length : Int)) = true := decide_eq_true (by omega)
    obtain ⟨ad, u0, rfl, d0, hu0⟩ := kbb_at (rk_C hu) 0 hpos
    rw [add_0] at d0
    obtain ⟨A0, c0, rfl⟩ := rk_form hu0
    have hc2 := fun V h => Lib.hid (wide_c (.slice (some ad) b.length d) b ((b.getD 0 []).length : Int) V h)
    rw [hall] at hc2
    clear hu0 hall h0
    generalize (b.getD 0 []).length = W at *
    go_enter Try.func121, Try.ntmps121
    go_wp2_with fail
    refine hc.out.mono ?_
    rintro e w1 ⟨rfl, hB⟩
    have e0 := pw_cell_below hB d0
    go_wp2_with fail
    refine (hc2 _ (hu.below hB)).out.mono ?_
    rintro e w2 ⟨rfl, hB2⟩
    replace hB := bt_ hB hB2
    clear hB2 e0 hc2
    go_wp2_with fail
    refine (hcr _ (hu.below hB)).out.mono ?_
    rintro e w3 ⟨z, rfl, hZ, hB3⟩
    have hB0 := bt_ hB hB3
    clear hB3 hcr hB
    replace hv := hv.below hB0
    replace hF := hF.below hB0
    obtain ⟨Az, cz, rfl⟩ := rk_form hZ
    generalize hC : colsOf b = C at *
    have hMC : Hid (mulC a b = a.map fun r => C.map (dot r)) := Lib.hid (by rw [← hC]; rfl)
    clear hC
    go_wp2_with ((with_reducible refine gate_dst (N := 38) rfl ?_); refine mk_cap kbb rfl 66 40 _ _ rfl .i64 _ rfl rfl Try.underlying66 (.slice none 0 0) 24 infoR (by decide) ?h0 ?hl (Below.refl w3.heap.size w3) ?_; (case h0 => omega); (case hl => omega); intro v1 w1 ho hb9 hg; replace ho : Obb w3 w1 v1 [] := ho)
    have hB := hb9
    clear hb9 hg
    go_loopw [9, 41] (fun s i wr => ∃ k : Nat, k ≤ a.length ∧ i = .int .i64 k ∧ Obb w3 wr s ((a.take k).map fun r => C.map (dot r)) ∧ Below w3.heap.size w3 wr) (fun _ i _ => a.length - (intOf i).toNat)
    case atStart => exact ⟨0, by omega, rfl, ho, hB⟩
    case round =>
      clear ho hB
      obtain ⟨k, hk, rfl, oM, hB⟩ := hrel
      by_cases hlt : k < a.length
      · obtain ⟨ada, u1, rfl, d1, hu1⟩ := kbb_at (rk_C hv) k hlt
        have e0 := pw_cell_below hB d1
        have HS : Hid (((a.take (k + 1)).map fun r => C.map (dot r)) = ((a.take k).map fun r => C.map (dot r)) ++ [C.map (dot (a.getD k []))]) := Lib.hid (by rw [take_snoc' a k [] hlt, List.map_append]; rfl)
        have hlen : Hid (((a.take k).map fun r => C.map (dot r)).length + 1 ≤ 5000000000) := Lib.hid (by rw [List.length_map, List.length_take]; omega)
        generalize a.getD k [] = r at *
        generalize ((a.take k).map fun r => C.map (dot r)) = M at *
        go_wp2_with ((with_reducible refine gate_dst (N := 47) rfl ?_); refine mk_cap kb rfl 40 5 _ _ rfl .i64 _ rfl rfl Try.underlying40 (.int .u8 0) 1 infoB (by decide) ?h0 ?hl (Below.refl wr.heap.size wr) ?_; (case h0 => omega); (case hl => omega); intro v2 w2 ho2 hb2 hg2; replace ho2 : Ob wr w2 v2 [] := ho2)
        go_loopw [12, 50] (fun s j ws => ∃ j' : Nat, j' ≤ C.length ∧ j = .int .i64 j' ∧ Ob wr ws s ((C.take j').map (dot r)) ∧ Below wr.heap.size wr ws) (fun _ j _ => C.length - (intOf j).toNat)
        case atStart => exact ⟨0, by omega, rfl, ho2, hb2⟩
        case round =>
          clear ho2 hb2 hg2
          obtain ⟨j, hj, rfl, oR, hD⟩ := hrel
          by_cases hlt2 : j < C.length
          · obtain ⟨adz, u2, q2, d2, hu2⟩ := kbb_at (rk_C hZ) j hlt2
            subst q2
            have e2 := pw_cell_below (bt_ hB hD) d2
            have HR : Hid (((C.take (j + 1)).map (dot r)) = ((C.take j).map (dot r)) ++ [dot r (C.getD j [])]) := Lib.hid (by rw [take_snoc' C j [] hlt2, List.map_append]; rfl)
            have hlr : Hid (((C.take j).map (dot r)).length + 1 ≤ 1000000) := Lib.hid (by rw [List.length_map, List.length_take]; omega)
            have hF' := hF.below (bt_ hB hD)
            have hx1 := hu1.below (bt_ hB hD)
            have hx2 := hu2.below (bt_ hB hD)
            generalize C.getD j [] = q at *
            generalize ((C.take j).map (dot r)) = R at *
            go_wp2_with fail
            refine (fDot_c b9 u1 u2 r q _ hF' hx1 hx2).mono ?_
            rintro e w4 ⟨rfl, h4⟩
            have oR2 : Ob _ w4 _ _ := oR.drawn h4
            have hD2 := bd hD h4
            have hlr9 := hlr.out
            go_wp2_with (at_builtin; refine app_one (enc := bV) rfl (.tmp 54) (.tmp 59) 40 5 (.int .u8 0) 1 rfl Try.underlying40 infoB rfl (by decide) _ _ (dot r q) rfl rfl _ (bV_eq ?hc) oR2 hD2 ?hl ?_; (case hc => (first | exact rfl | exact rfl)); (case hl => (first | (simp; omega) | omega)); intro v1 w1 ho hb hg)
            exact ⟨⟨j + 1, by omega, by go_num, by rw [HR.out]; exact ho, hb⟩, by simp [intOf]; try omega⟩
          · obtain rfl : j = C.length := by omega
            rw [List.take_length] at oR
            have hlen9 := hlen.out
            replace oR := oR.lower (w0 := w3) hB
            have oM1 := oM.below hD
            have hB1 := bt_ hB hD
            generalize (C.map (dot r)) = R at *
            obtain ⟨A2, c2, rfl⟩ := rk_form oR.rk
            go_wp2_with (at_builtin; refine app_row rfl (.tmp 62) (.tmp 64) 66 40 rfl Try.underlying66 infoR (by decide) _ _ _ _ rfl rfl oM1 oR hB1 ?hl ?_; (case hl => (first | (simp; omega) | omega)); intro v1 w1 ho hb hg)
            exact ⟨⟨k + 1, by omega, by go_num, by rw [HS.out]; exact ho, hb⟩, by simp [intOf]; try omega⟩
      · obtain rfl : k = a.length := by omega
        rw [List.take_length] at oM
        go_wp2
        go_ret2
        exact ⟨_, rfl, by rw [hMC.out]; exact oM.lower hB0, bt_ hB0 hB⟩
end Go.Proofs.Ytijeabhfddaoaaa
