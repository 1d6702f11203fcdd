/- The walk of deal.newDealer. -/
import Derived.Test.YtijeabhfddaoaaaDa
namespace Go.Proofs.Ytijeabhfddaoaaa
set_option linter.unusedVariables false
open Go.RowKit Go.Proofs.YtijeabhfddaoaaaW.PrintWords Go.Proofs.Sh

set_option maxRecDepth 100000 in
set_option maxHeartbeats 3200000 in
theorem newDealer_c (b : Nat) (p : Pl) (h : p.Ok) (v : Value) (who : List Int) (w : World) (hF : IsField w b) (hv : Ri w v who) (hl : who.length ≤ 1000) :
   Calls Try.prog 207 #[fp b, planV p, v] w fun e w' => ∃ g, e = .returned (.pointer (some ⟨g, 0, none⟩)) ∧ Dlr w' g b (secretsAt p) (who.map point) ∧ Below w.heap.size w w' := by
  have hsn := Lib.hid (secrets_nodup10 p h)
  have hsl := Lib.hid (L_small p h)
  have hsl2 : (secretsAt p).length ≤ 100000 := by have := hsl.out; omega
  have hwl : who.length < 1000000 := by omega
  have HP := Blk.new w (planC p) 33
  have hB := below_alloc (Below.refl w.heap.size w) (.cells (planC p) 33)
  go_enter Try.func207, Try.ntmps207
  go_wp2_with fail
  generalize w.alloc (.cells (planC p) 33) = w1 at *
  obtain ⟨c0, c1, c2, c3, c4, c5⟩ := cells6 HP
  go_upto_region 1 with fail
  go_cut [7] (fun s7 wc => ∃ (g : Nat) (vR : Value), s7 = .pointer (some ⟨g, 0, none⟩) ∧ w.heap.size < g ∧ Blk wc g #[fp b, .int .i64 p.N, .int .i64 p.T, .int .i64 p.L, .int .i64 p.W, .int .i64 p.S, .int .i64 p.R, vR, .slice none 0 0] 193 ∧ Ob w wc vR (F.rt (secretsAt p)) ∧ Blk wc w.heap.size (planC p) 33 ∧ Below w.heap.size w wc)
  case first =>
    go_region_held3 (fun w' => w'.cell? ⟨w.heap.size, 0, none⟩ = some (.int .i64 p.N) ∧ w'.cell? ⟨w.heap.size, 1, none⟩ = some (.int .i64 p.T) ∧ w'.cell? ⟨w.heap.size, 2, none⟩ = some (.int .i64 p.L) ∧ w'.cell? ⟨w.heap.size, 3, none⟩ = some (.int .i64 p.W) ∧ w'.cell? ⟨w.heap.size, 4, none⟩ = some (.int .i64 p.S) ∧ w'.cell? ⟨w.heap.size, 5, none⟩ = some (.int .i64 p.R))
      (go_keep)
      (first
        | (go_at_call 55; refine (secrets_yes p h _).mono ?_; rintro e w6 ⟨vS, rfl, sS, h6⟩; replace sS := sS.rk; (repeat (first | replace h6 := ba h6 | replace h6 := buN h6 | replace h6 := bu h6)); have HP := HP.below h6; have hB := bt_ hB h6; obtain ⟨c0, c1, c2, c3, c4, c5⟩ := cells6 HP)
        | (go_at_call 80; refine (pRoot_c b _ _ _ (by first | exact hF.below hB | exact (hF.below hB).drew) (by first | exact sS | exact sS.drew | exact sS.drewN _) hsl2).mono ?_; rintro e w6 ⟨vR, rfl, sR, h6⟩; obtain ⟨A6, c6, rfl⟩ := rk_form sR.rk; replace sR := sR.lower (w0 := w) (by first | exact hB | exact below_drew hB | exact pw_below_drewN hB _); (repeat (first | replace h6 := ba h6 | replace h6 := buN h6 | replace h6 := bu h6)); have HP := HP.below h6; have hB := bt_ hB h6; obtain ⟨c0, c1, c2, c3, c4, c5⟩ := cells6 HP)
        | fail)
    all_goals
      go_wp2_with fail
      go_meet
      exact ⟨_, _, rfl, HP.lt, Blk.new _ _ _, Own.alloc sR _, HP.alloc _, below_alloc hB _⟩
  case rest =>
    obtain ⟨g, vR, rfl, hg0, HG, sR, HP, hB⟩ := hcut
    clear c0 c1 c2 c3 c4 c5
    go_wp2_with fail
    refine (points_c _ who _ (hv.below hB) hwl).mono ?_
    rintro e w2 ⟨vP, rfl, oP, h2⟩
    replace oP := oP.lower (w0 := w) hB
    replace HG := HG.below h2
    replace sR := sR.below h2
    replace HP := HP.below h2
    replace hB := bt_ hB h2
    clear h2
    have hpl : (who.map point).length ≤ 1000 := by rw [List.length_map]; exact hl
    generalize hpts : who.map point = pts at *
    replace hpts := Lib.hid hpts
    obtain ⟨AP, cP, rfl⟩ := rk_form oP.rk
    go_wp2_with fail
    go_loopw [9, 10, 11, 23] (fun _ _ _ i wr => ∃ (k : Nat) (vW : Value), k ≤ pts.length ∧ i = .int .i64 k ∧ Blk wr g #[fp b, .int .i64 p.N, .int .i64 p.T, .int .i64 p.L, .int .i64 p.W, .int .i64 p.S, .int .i64 p.R, vR, vW] 193 ∧ Ob w wr vR (F.rt (secretsAt p)) ∧ Ob w wr (.slice AP pts.length cP) pts ∧ Obb w wr vW ((pts.take k).map (F.wts (secretsAt p))) ∧ Blk wr w.heap.size (planC p) 33 ∧ Below w.heap.size w wr) (fun _ _ _ i _ => pts.length - (intOf i).toNat)
    case atStart => exact ⟨0, _, by omega, rfl, HG, sR, oP, Own.nil _ _ _ _, HP, hB⟩
    case round =>
      clear HG sR oP HP hB
      obtain ⟨k, vW, hk, rfl, HG, sR, oP, oW, HP, hB⟩ := hrel
      by_cases hlt : k < pts.length
      · obtain ⟨ad, e1, d0⟩ := kb_at (rk_C oP.rk) k hlt
        subst e1
        have HS := Lib.hid (congrArg (List.map (F.wts (secretsAt p))) (take_snoc' pts k 0 hlt))
        have hlen : Hid (((pts.take k).map (F.wts (secretsAt p))).length + 1 ≤ 5000000000) := Lib.hid (by rw [List.length_map, List.length_take]; omega)
        generalize pts.getD k 0 = x at *
        obtain ⟨c0, c1, c2, c3, c4, c5⟩ := cells6 HP
        go_wp2_with fail
        refine (secrets_yes p h _).mono ?_
        rintro e w3 ⟨vS, rfl, sS, h3⟩
        have HG := HG.below h3
        have sR := sR.below h3
        have oP := oP.below h3
        have oW := oW.below h3
        have HP := HP.below h3
        have d0 := pw_cell_below h3 d0
        have hB := bt_ hB h3
        clear c0 c1 c2 c3 c4 c5 h3
        go_wp2_with fail
        refine (weights_yes b _ (secretsAt p) x _ (hF.below hB) sS.rk hsn.out hsl.out).mono ?_
        rintro e w4 ⟨z, rfl, oz, h4⟩
        replace oz := oz.lower (w0 := w) hB
        have HG := HG.below h4
        have sR := sR.below h4
        have oP := oP.below h4
        have oW := oW.below h4
        have HP := HP.below h4
        have d0 := pw_cell_below h4 d0
        have hB := bt_ hB h4
        clear h4 sS
        generalize hrow : F.wts (secretsAt p) x = row at *
        replace hrow := Lib.hid hrow
        obtain ⟨A4, n4, rfl⟩ := rk_form oz.rk
        have q8 : w4.cell? ⟨g, 8, none⟩ = some vW := HG.cell 8 _ rfl
        go_wp2_with (at_builtin; refine app_row rfl (.tmp 39) (.tmp 41) 66 40 rfl Try.underlying66 infoR (by decide) _ _ _ _ rfl rfl oW oz hB ?hl ?_; (case hl => (first | (simp; omega) | omega)); intro v1 w1 ho hb hg; (have HG1 : Blk w1 g #[fp b, .int .i64 p.N, .int .i64 p.T, .int .i64 p.L, .int .i64 p.W, .int .i64 p.S, .int .i64 p.R, vR, vW] 193 := blk_grown HG hg (Kd.R_ne oW HG (by decide)); have q9 : w1.cell? ⟨g, 8, none⟩ = some vW := HG1.cell 8 _ rfl; have q10 := blk_frozen HG1 8; obtain ⟨A9, m9, n9, rfl⟩ : ∃ A m c, v1 = .slice A m c := (rk_form ho.rk).elim fun A h => h.elim fun c h => ⟨A, _, c, h⟩))
        have sR1 := Ob.grown sR oW hg
        have oP1 := Ob.grown oP oW hg
        have HP1 : Blk w1 w.heap.size (planC p) 33 := blk_grown HP hg (Kd.R_ne oW HP (by decide))
        exact ⟨⟨k + 1, _, by omega, by go_num, blk_set HG1 8 _, Rk.far sR1 (Kd.R_ne sR1 HG1 (by decide)) 8 _, Rk.far oP1 (Kd.R_ne oP1 HG1 (by decide)) 8 _, by rw [HS.out, List.map_append]; show Own _ _ _ _ _ (_ ++ [F.wts (secretsAt p) x]); rw [hrow.out]; exact Kd.R_set ho HG1 (by decide) 8 _, HP1.far (by omega) 8 _, below_set hb (by omega)⟩, by simp [intOf]; try omega⟩
      · obtain rfl : k = pts.length := by omega
        rw [List.take_of_length_le (Nat.le_refl _)] at oW
        go_wp2
        go_ret
        rw [hpts.out]
        exact ⟨g, rfl, ⟨HG.cell 0 _ rfl, hF.below hB, ⟨vR, HG.cell 7 _ rfl, sR.rk⟩, vW, HG.cell 8 _ rfl, oW.rk⟩, hB⟩
end Go.Proofs.Ytijeabhfddaoaaa
