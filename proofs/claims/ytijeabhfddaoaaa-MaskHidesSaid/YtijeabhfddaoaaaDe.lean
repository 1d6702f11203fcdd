/- Several texts of this seat, one behind the other. -/
import Derived.Test.YtijeabhfddaoaaaKv
import Derived.Test.YtijeabhfddaoaaaR10
import Derived.Test.YtijeabhfddaoaaaLa
import Derived.Test.YtijeabhfddaoaaaCut
import Derived.Test.YtijeabhfddaoaaaM13
import Derived.Test.YtijeabhfddaoaaaK9
import Derived.Test.YtijeabhfddaoaaaFt
import Derived.Laws.EntriesVeiled
/- The walks of package deal: what a blob costs; a stripe's polynomial at a custodian. -/
namespace Go.Proofs.Ytijeabhfddaoaaa
set_option linter.unusedVariables false
open Go.RowKit Go.Proofs.YtijeabhfddaoaaaW.PrintWords Go.Proofs.Sh

set_option maxRecDepth 100000 in
set_option maxHeartbeats 1600000 in
theorem dCost_of (p : Pl) (n s : Int) (hS : ∀ W : World, Calls Try.prog 65 #[planV p, .int .i64 n] W fun e W' => e = .returned (.int .i64 s) ∧ Below W.heap.size W W') (u1 : IntKind.i64.wrap (p.T * s) = p.T * s) (w : World) :
   Calls Try.prog 132 #[planV p, .int .i64 n] w fun e w' => e = .returned (.int .i64 (p.T * s)) ∧ Below w.heap.size w w' := by
  have HP := Blk.new w (planC p) 33
  have hB0 := below_alloc (Below.refl w.heap.size w) (.cells (planC p) 33)
  go_enter Try.func132, Try.ntmps132
  go_wp2_with fail
  refine wp_region_tell [.v (.pointer (some ⟨w.heap.size, 1, none⟩)), .v (.int .i64 p.T), .v (planV p), .v (.int .i64 n), .v (.int .i64 s), .v (.int .i64 (p.T * s)), .v (.int .i64 (p.T * s))] [([], none), ([(0, some 5)], none), ([], none), ([], none), ([(2, some 7), (3, some 8)], none), ([(1, some 6), (4, some 9)], none), ([(5, some 10)], none)] [(0, some 5), (1, some 6), (2, some 7), (3, some 8), (4, some 9), (5, some 10), (6, some 4)] (by kernel_rfl) (by kernel_rfl) (by kernel_rfl) (by kernel_rfl) (by exact ⟨trivial, trivial, trivial, trivial, trivial, trivial, trivial, trivial⟩) ⟨?s0, ?s1, ?s2, ?s3, ?s4, ?s5, ?s6, trivial⟩ ?hQ
  case s0 =>
    intro W hB K hK
    simp only [tellK, Act.put, List.setIfInBounds_toArray, List.set_cons_zero, List.set_cons_succ] at hK ⊢
    refine tell_do rfl ?_
    obtain ⟨c0, c1, c2, c3, c4, c5⟩ := cells6 (HP.below hB)
    go_simp
    exact hK _ (Below.refl _ _)
  case s1 =>
    intro W hB K hK
    simp only [tellK, Act.put, List.setIfInBounds_toArray, List.set_cons_zero, List.set_cons_succ] at hK ⊢
    refine tell_do rfl ?_
    obtain ⟨c0, c1, c2, c3, c4, c5⟩ := cells6 (HP.below hB)
    go_simp
    exact hK _ (Below.refl _ _)
  case s2 =>
    intro W hB K hK
    simp only [tellK, Act.put, List.setIfInBounds_toArray, List.set_cons_zero, List.set_cons_succ] at hK ⊢
    refine tell_do rfl ?_
    obtain ⟨c0, c1, c2, c3, c4, c5⟩ := cells6 (HP.below hB)
    go_simp
    exact hK _ (Below.refl _ _)
  case s3 =>
    intro W hB K hK
    simp only [tellK, Act.put, List.setIfInBounds_toArray, List.set_cons_zero, List.set_cons_succ] at hK ⊢
    refine tell_do rfl ?_
    obtain ⟨c0, c1, c2, c3, c4, c5⟩ := cells6 (HP.below hB)
    go_simp
    exact hK _ (Below.refl _ _)
  case s4 =>
    intro W hB K hK
    simp only [tellK, Act.put, List.setIfInBounds_toArray, List.set_cons_zero, List.set_cons_succ] at hK ⊢
    refine tell_do rfl ?_
    obtain ⟨c0, c1, c2, c3, c4, c5⟩ := cells6 (HP.below hB)
    go_simp
    go_at_call 65; refine (hS _).mono ?_; rintro e w6 ⟨rfl, h6⟩; exact hK _ h6
  case s5 =>
    intro W hB K hK
    simp only [tellK, Act.put, List.setIfInBounds_toArray, List.set_cons_zero, List.set_cons_succ] at hK ⊢
    refine tell_do rfl ?_
    obtain ⟨c0, c1, c2, c3, c4, c5⟩ := cells6 (HP.below hB)
    go_simp
    exact hK _ (Below.refl _ _)
  case s6 =>
    intro W hB K hK
    simp only [tellK, Act.put, List.setIfInBounds_toArray, List.set_cons_zero, List.set_cons_succ] at hK ⊢
    refine tell_do rfl ?_
    obtain ⟨c0, c1, c2, c3, c4, c5⟩ := cells6 (HP.below hB)
    go_simp
    exact hK _ (Below.refl _ _)
  case hQ =>
    intro W hB
    simp only [tellGo, sayAt, List.getD_cons_zero, List.getD_cons_succ, Act.put, List.setIfInBounds_toArray, List.set_cons_zero, List.set_cons_succ]
    go_wp2
    go_ret
    exact ⟨rfl, bt_ hB0 hB⟩
theorem dCost_ok (p : Pl) (h : p.Ok) (n : Nat) (hn : n ≤ 240) (w : World) :
   Calls Try.prog 132 #[planV p, .int .i64 (n : Int)] w fun e w' => e = .returned (.int .i64 (p.T * (F.nS p.L.toNat n : Int))) ∧ Below w.heap.size w w' := by
  have hT : 1 ≤ p.T ∧ p.T ≤ 256 := by have := h.t; have := h.tl; have := h.wn; have := h.nl; have := h.l; omega
  have hs : F.nS p.L.toNat n ≤ 240 := Nat.le_trans (F.nS_le_len _ n (by have := h.l; omega)) hn
  refine dCost_of p n _ (fun W => ?_) ?_ w
  · rw [← stripes_nat h n hn]
    exact stripes_yes p h n W
  · have h1 : p.T * (F.nS p.L.toNat n : Int) ≤ 256 * 240 := Int.mul_le_mul hT.2 (by omega) (by omega) (by omega)
    have h2 : 0 ≤ p.T * (F.nS p.L.toNat n : Int) := Int.mul_nonneg (by omega) (by omega)
    exact wrapI _ (by omega) (by omega)
theorem dCost_no (p : Pl) (h : ¬ p.Ok) (n : Int) (w : World) :
   Calls Try.prog 132 #[planV p, .int .i64 n] w fun e w' => e = .returned (.int .i64 0) ∧ Below w.heap.size w w' := by
  have := dCost_of p n 0 (fun W => stripes_no p h n W) (by rw [Int.mul_zero]; rfl) w
  rw [Int.mul_zero] at this
  exact this
/-- A dealer: the field, the polynomial that is 0 at the stripe's points, what each byte counts at each custodian's. -/
structure Dlr (w : World) (g fb : Nat) (sec pts : List F) : Prop where
  f : w.cell? ⟨g, 0, none⟩ = some (fp fb)
  fld : IsField w fb
  r : ∃ rv, w.cell? ⟨g, 7, none⟩ = some rv ∧ Rb w rv (F.rt sec)
  ws : ∃ wv, w.cell? ⟨g, 8, none⟩ = some wv ∧ Rbb w wv (pts.map (F.wts sec))
theorem Dlr.below {w w1 : World} {g fb : Nat} {sec pts : List F} (h : Dlr w g fb sec pts) (hb : Below w.heap.size w w1) : Dlr w1 g fb sec pts := by
  obtain ⟨c1, hF, ⟨rv, c2, hr⟩, wv, c3, hw⟩ := h
  exact ⟨pw_cell_below hb c1, hF.below hb, ⟨rv, pw_cell_below hb c2, hr.below hb⟩, wv, pw_cell_below hb c3, hw.below hb⟩
set_option maxRecDepth 100000 in
set_option maxHeartbeats 1600000 in
theorem dValue_c (g fb : Nat) (sec pts : List F) (v u : Value) (row t : List F) (k : Nat) (hk : k < pts.length) (x : F) (w : World) (hD : Dlr w g fb sec pts) (hv : Rb w v row) (hu : Rb w u t) :
   Calls Try.prog 208 #[.pointer (some ⟨g, 0, none⟩), v, u, .int .i64 (k : Int), .int .u8 (x.n : Int)] w fun e w' => e = .returned (.int .u8 ((dot (F.wts sec (pts.getD k 0)) row + F.ev x (F.rt sec) * F.ev x t).n : Int)) ∧ Drawn0 w w' := by
  have hD0 := Lib.hid hD
  obtain ⟨cf, hF, ⟨rv, cr, hr⟩, wv, cw, hw⟩ := hD
  obtain ⟨Ar, nr, rfl⟩ := rk_form hr
  obtain ⟨Av, nv, rfl⟩ := rk_form hv
  obtain ⟨Au, nu, rfl⟩ := rk_form hu
  go_enter Try.func208, Try.ntmps208
  go_wp2_with fail
  go_quiet ((first | (go_at_call 74; first | exact qd (pEval_c fb _ (F.rt sec) x _ (hF.drewN _) (hr.drewN _)) | exact qd (pEval_c fb _ t x _ (hF.drewN _) (hu.drewN _))) | (go_at_call 40; exact qd (mul_c fb (F.ev x (F.rt sec)) (F.ev x t) _ (hF.drewN _) _ _ rfl rfl)) | fail))
  clear cf hF cr hr cw hw
  obtain ⟨cf, hF, ⟨rv2, cr, hr⟩, wv2, cw, hw⟩ := hD0.out.below (pw_below_drewN (Below.refl _ _) nq)
  have hv := hv.drewN nq
  obtain ⟨Aw, nw, rfl⟩ := rk_form hw
  obtain ⟨ad, u5, rfl, d0, hu5⟩ := kbb_at (rk_C hw) k (by rw [List.length_map]; exact hk)
  rw [map_getD pts (F.wts sec) 0 [] k hk] at hu5
  rw [List.length_map] at *
  have hi : (k : Int) < (pts.length : Int) := by omega
  generalize hwk : F.wts sec (pts.getD k 0) = wk at *
  generalize hy : F.ev x (F.rt sec) * F.ev x t = y at *
  replace hwk := Lib.hid hwk
  replace hy := Lib.hid hy
  obtain ⟨A5, n5, rfl⟩ := rk_form hu5
  have hb0 : Drawn0 w (w.drewN nq) := ⟨⟨nq, rfl⟩⟩
  generalize w.drewN nq = w1 at *
  go_wp2_with fail
  go_quiet ((first | (go_at_call 52; exact qd (fDot_c fb _ _ wk row _ (hF.drewN _) (hu5.drewN _) (hv.drewN _))) | (go_at_call 39; exact qs (add_c (dot wk row) y _ _ _ rfl rfl)) | fail))
  go_wp2
  go_ret
  exact ⟨by rw [hwk.out, hy.out]; rfl, hb0.step _⟩
end Go.Proofs.Ytijeabhfddaoaaa

/- The walk of deal.newDealer. -/
namespace Go.Proofs.Ytijeabhfddaoaaa
set_option linter.unusedVariables false
open Go.RowKit Go.Proofs.YtijeabhfddaoaaaW.PrintWords Go.Proofs.Sh

set_option maxRecDepth 100000 in
set_option maxHeartbeats 3200000 in
theorem newDealer_c (b : Nat) (p : Pl) (h : p.Ok) (v : Value) (who : List Int) (w : World) (hF : IsField w b) (hv : Ri w v who) (hl : who.length ≤ 1000) :
   Calls Try.prog 207 #[fp b, planV p, v] w fun e w' => ∃ g, e = .returned (.pointer (some ⟨g, 0, none⟩)) ∧ Dlr w' g b (secretsAt p) (who.map point) ∧ Below w.heap.size w w' := by
  have hsn := Lib.hid (secrets_nodup10 p h)
  have hsl := Lib.hid (L_small p h)
  have hsl2 : (secretsAt p).length ≤ 100000 := by have := hsl.out; omega
  have hwl : who.length < 1000000 := by omega
  have HP := Blk.new w (planC p) 33
  have hB := below_alloc (Below.refl w.heap.size w) (.cells (planC p) 33)
  go_enter Try.func207, Try.ntmps207
  go_wp2_with fail
  generalize w.alloc (.cells (planC p) 33) = w1 at *
  obtain ⟨c0, c1, c2, c3, c4, c5⟩ := cells6 HP
  go_upto_region 1 with fail
  go_cut [7] (fun s7 wc => ∃ (g : Nat) (vR : Value), s7 = .pointer (some ⟨g, 0, none⟩) ∧ w.heap.size < g ∧ Blk wc g #[fp b, .int .i64 p.N, .int .i64 p.T, .int .i64 p.L, .int .i64 p.W, .int .i64 p.S, .int .i64 p.R, vR, .slice none 0 0] 193 ∧ Ob w wc vR (F.rt (secretsAt p)) ∧ Blk wc w.heap.size (planC p) 33 ∧ Below w.heap.size w wc)
  case first =>
    go_region_held3 (fun w' => w'.cell? ⟨w.heap.size, 0, none⟩ = some (.int .i64 p.N) ∧ w'.cell? ⟨w.heap.size, 1, none⟩ = some (.int .i64 p.T) ∧ w'.cell? ⟨w.heap.size, 2, none⟩ = some (.int .i64 p.L) ∧ w'.cell? ⟨w.heap.size, 3, none⟩ = some (.int .i64 p.W) ∧ w'.cell? ⟨w.heap.size, 4, none⟩ = some (.int .i64 p.S) ∧ w'.cell? ⟨w.heap.size, 5, none⟩ = some (.int .i64 p.R))
      (go_keep)
      (first
        | (go_at_call 55; refine (secrets_yes p h _).mono ?_; rintro e w6 ⟨vS, rfl, sS, h6⟩; replace sS := sS.rk; (repeat (first | replace h6 := ba h6 | replace h6 := buN h6 | replace h6 := bu h6)); have HP := HP.below h6; have hB := bt_ hB h6; obtain ⟨c0, c1, c2, c3, c4, c5⟩ := cells6 HP)
        | (go_at_call 80; refine (pRoot_c b _ _ _ (by first | exact hF.below hB | exact (hF.below hB).drew) (by first | exact sS | exact sS.drew | exact sS.drewN _) hsl2).mono ?_; rintro e w6 ⟨vR, rfl, sR, h6⟩; obtain ⟨A6, c6, rfl⟩ := rk_form sR.rk; replace sR := sR.lower (w0 := w) (by first | exact hB | exact below_drew hB | exact pw_below_drewN hB _); (repeat (first | replace h6 := ba h6 | replace h6 := buN h6 | replace h6 := bu h6)); have HP := HP.below h6; have hB := bt_ hB h6; obtain ⟨c0, c1, c2, c3, c4, c5⟩ := cells6 HP)
        | fail)
    all_goals
      go_wp2_with fail
      go_meet
      exact ⟨_, _, rfl, HP.lt, Blk.new _ _ _, Own.alloc sR _, HP.alloc _, below_alloc hB _⟩
  case rest =>
    obtain ⟨g, vR, rfl, hg0, HG, sR, HP, hB⟩ := hcut
    clear c0 c1 c2 c3 c4 c5
    go_wp2_with fail
    refine (points_c _ who _ (hv.below hB) hwl).mono ?_
    rintro e w2 ⟨vP, rfl, oP, h2⟩
    replace oP := oP.lower (w0 := w) hB
    replace HG := HG.below h2
    replace sR := sR.below h2
    replace HP := HP.below h2
    replace hB := bt_ hB h2
    clear h2
    have hpl : (who.map point).length ≤ 1000 := by rw [List.length_map]; exact hl
    generalize hpts : who.map point = pts at *
    replace hpts := Lib.hid hpts
    obtain ⟨AP, cP, rfl⟩ := rk_form oP.rk
    go_wp2_with fail
    go_loopw [9, 10, 11, 23] (fun _ _ _ i wr => ∃ (k : Nat) (vW : Value), k ≤ pts.length ∧ i = .int .i64 k ∧ Blk wr g #[fp b, .int .i64 p.N, .int .i64 p.T, .int .i64 p.L, .int .i64 p.W, .int .i64 p.S, .int .i64 p.R, vR, vW] 193 ∧ Ob w wr vR (F.rt (secretsAt p)) ∧ Ob w wr (.slice AP pts.length cP) pts ∧ Obb w wr vW ((pts.take k).map (F.wts (secretsAt p))) ∧ Blk wr w.heap.size (planC p) 33 ∧ Below w.heap.size w wr) (fun _ _ _ i _ => pts.length - (intOf i).toNat)
    case atStart => exact ⟨0, _, by omega, rfl, HG, sR, oP, Own.nil _ _ _ _, HP, hB⟩
    case round =>
      clear HG sR oP HP hB
      obtain ⟨k, vW, hk, rfl, HG, sR, oP, oW, HP, hB⟩ := hrel
      by_cases hlt : k < pts.length
      · obtain ⟨ad, e1, d0⟩ := kb_at (rk_C oP.rk) k hlt
        subst e1
        have HS := Lib.hid (congrArg (List.map (F.wts (secretsAt p))) (take_snoc' pts k 0 hlt))
        have hlen : Hid (((pts.take k).map (F.wts (secretsAt p))).length + 1 ≤ 5000000000) := Lib.hid (by rw [List.length_map, List.length_take]; omega)
        generalize pts.getD k 0 = x at *
        obtain ⟨c0, c1, c2, c3, c4, c5⟩ := cells6 HP
        go_wp2_with fail
        refine (secrets_yes p h _).mono ?_
        rintro e w3 ⟨vS, rfl, sS, h3⟩
        have HG := HG.below h3
        have sR := sR.below h3
        have oP := oP.below h3
        have oW := oW.below h3
        have HP := HP.below h3
        have d0 := pw_cell_below h3 d0
        have hB := bt_ hB h3
        clear c0 c1 c2 c3 c4 c5 h3
        go_wp2_with fail
        refine (weights_yes b _ (secretsAt p) x _ (hF.below hB) sS.rk hsn.out hsl.out).mono ?_
        rintro e w4 ⟨z, rfl, oz, h4⟩
        replace oz := oz.lower (w0 := w) hB
        have HG := HG.below h4
        have sR := sR.below h4
        have oP := oP.below h4
        have oW := oW.below h4
        have HP := HP.below h4
        have d0 := pw_cell_below h4 d0
        have hB := bt_ hB h4
        clear h4 sS
        generalize hrow : F.wts (secretsAt p) x = row at *
        replace hrow := Lib.hid hrow
        obtain ⟨A4, n4, rfl⟩ := rk_form oz.rk
        have q8 : w4.cell? ⟨g, 8, none⟩ = some vW := HG.cell 8 _ rfl
        go_wp2_with (at_builtin; refine app_row rfl (.tmp 39) (.tmp 41) 66 40 rfl Try.underlying66 infoR (by decide) _ _ _ _ rfl rfl oW oz hB ?hl ?_; (case hl => (first | (simp; omega) | omega)); intro v1 w1 ho hb hg; (have HG1 : Blk w1 g #[fp b, .int .i64 p.N, .int .i64 p.T, .int .i64 p.L, .int .i64 p.W, .int .i64 p.S, .int .i64 p.R, vR, vW] 193 := blk_grown HG hg (Kd.R_ne oW HG (by decide)); have q9 : w1.cell? ⟨g, 8, none⟩ = some vW := HG1.cell 8 _ rfl; have q10 := blk_frozen HG1 8; obtain ⟨A9, m9, n9, rfl⟩ : ∃ A m c, v1 = .slice A m c := (rk_form ho.rk).elim fun A h => h.elim fun c h => ⟨A, _, c, h⟩))
        have sR1 := Ob.grown sR oW hg
        have oP1 := Ob.grown oP oW hg
        have HP1 : Blk w1 w.heap.size (planC p) 33 := blk_grown HP hg (Kd.R_ne oW HP (by decide))
        exact ⟨⟨k + 1, _, by omega, by go_num, blk_set HG1 8 _, Rk.far sR1 (Kd.R_ne sR1 HG1 (by decide)) 8 _, Rk.far oP1 (Kd.R_ne oP1 HG1 (by decide)) 8 _, by rw [HS.out, List.map_append]; show Own _ _ _ _ _ (_ ++ [F.wts (secretsAt p) x]); rw [hrow.out]; exact Kd.R_set ho HG1 (by decide) 8 _, HP1.far (by omega) 8 _, below_set hb (by omega)⟩, by simp [intOf]; try omega⟩
      · obtain rfl : k = pts.length := by omega
        rw [List.take_of_length_le (Nat.le_refl _)] at oW
        go_wp2
        go_ret
        rw [hpts.out]
        exact ⟨g, rfl, ⟨HG.cell 0 _ rfl, hF.below hB, ⟨vR, HG.cell 7 _ rfl, sR.rk⟩, vW, HG.cell 8 _ rfl, oW.rk⟩, hB⟩
end Go.Proofs.Ytijeabhfddaoaaa

/- The walk of the closure of deal.some: a stripe's byte for each custodian. -/
namespace Go.Proofs.Ytijeabhfddaoaaa
set_option linter.unusedVariables false
open Go.RowKit Go.Proofs.YtijeabhfddaoaaaW.PrintWords Go.Proofs.Sh

/-- What the closure has caught (but the rows that it writes). -/
structure SEnv (w : World) (bw bv bt bp g fb T : Nat) (wv tv : Value) (sec : List F) (who : List Int) (tape : List F) : Prop where
  wh : w.cell? ⟨bw, 0, none⟩ = some wv
  val : w.cell? ⟨bv, 0, none⟩ = some (.func (.func 208) #[.pointer (some ⟨g, 0, none⟩)] #[])
  tp : w.cell? ⟨bt, 0, none⟩ = some tv
  p : w.cell? ⟨bp, 1, none⟩ = some (.int .i64 (T : Int))
  dl : Dlr w g fb sec (who.map point)
  hw : Ri w wv who
  ht : Rb w tv tape
theorem SEnv.below {w w1 : World} {bw bv bt bp g fb T : Nat} {wv tv : Value} {sec : List F} {who : List Int} {tape : List F} (h : SEnv w bw bv bt bp g fb T wv tv sec who tape) (hb : Below w.heap.size w w1) : SEnv w1 bw bv bt bp g fb T wv tv sec who tape :=
  ⟨pw_cell_below hb h.wh, pw_cell_below hb h.val, pw_cell_below hb h.tp, pw_cell_below hb h.p, h.dl.below hb, h.hw.below hb, h.ht.below hb⟩
/-- A stripe's polynomial at x, as the dealer tells it. -/
def dval (sec row t : List F) (x : F) : F := dot (F.wts sec x) row + F.ev x (F.rt sec) * F.ev x t
set_option maxRecDepth 100000 in
set_option maxHeartbeats 3200000 in
theorem dEach_c (w9 w : World) (bw bo bv bt bp g g2 fb T : Nat) (wv tv v : Value) (sec : List F) (who : List Int) (tape row : List F) (vs : Nat → Value) (ls : Nat → List F) (j : Nat)
   (hB : Below w9.heap.size w9 w) (hE : SEnv w9 bw bv bt bp g fb T wv tv sec who tape) (hO : Blk w bo #[.slice (some ⟨g2, 0, none⟩) who.length who.length] 66) (hbo : w9.heap.size ≤ bo) (hR : Rws w9 w g2 who.length vs ls) (hv : Rb w9 v row)
   (hwl : who.length ≤ 1000) (hT : 1 ≤ T) (hT2 : T ≤ 256) (hj : j < 240) (hlen : (j + 1) * T ≤ tape.length) (hll : ∀ k, (ls k).length ≤ 1000) :
   Calls Try.prog 209 #[.int .i64 (j : Int), v, .pointer (some ⟨bw, 0, none⟩), .pointer (some ⟨bo, 0, none⟩), .pointer (some ⟨bv, 0, none⟩), .pointer (some ⟨bt, 0, none⟩), .pointer (some ⟨bp, 0, none⟩)] w fun e w' => e = .returned (.tuple #[]) ∧
     ∃ vs', Rws w9 w' g2 who.length vs' (fun k => ls k ++ [dval sec row (F.tp T tape j) (point (who.getD k 0))]) ∧ Blk w' bo #[.slice (some ⟨g2, 0, none⟩) who.length who.length] 66 ∧ Below w9.heap.size w9 w' := by
  obtain ⟨Aw, cw, rfl⟩ := rk_form hE.hw
  obtain ⟨At, ct, rfl⟩ := rk_form hE.ht
  obtain ⟨Ar, cr, rfl⟩ := rk_form hv
  replace hE := Lib.hid hE
  replace hll := Lib.hid hll
  have hct := rk_cap hE.out.ht
  have hlt0 := kb_len (rk_C hE.out.ht)
  have hjT : j * T ≤ 240 * 256 := Nat.mul_le_mul (by omega) hT2
  have hjT2 : (j + 1) * T = j * T + T := by rw [Nat.add_mul, Nat.one_mul]
  have m1 : (j : Int) * (T : Int) = ((j * T : Nat) : Int) := (Int.natCast_mul ..).symm
  have m2 : ((j : Int) + 1) * (T : Int) = ((j * T : Nat) : Int) + (T : Int) := by rw [Int.add_mul, Int.one_mul, m1]
  obtain ⟨adt, rfl, _⟩ := kb_at (rk_C hE.out.ht) (j * T) (by omega)
  have hmid := rb_mid hE.out.ht (j * T) T (by omega) (by omega)
  have hT2' : Hid ((tape.drop (j * T)).take T = F.tp T tape j) := Lib.hid rfl
  rw [hT2'.out] at hmid
  have hdv : Hid (∀ x, dval sec row (F.tp T tape j) x = dot (F.wts sec x) row + F.ev x (F.rt sec) * F.ev x (F.tp T tape j)) := Lib.hid (fun x => rfl)
  generalize hlo' : j * T = lo at *
  replace hlo' := Lib.hid hlo'
  have n1 : IntKind.i64.wrap (lo : Int) = lo := wrapI _ (by omega) (by omega)
  have n2 : IntKind.i64.wrap ((lo : Int) + T) = lo + T := wrapI _ (by omega) (by omega)
  have n3 : IntKind.i64.wrap ((j : Int) + 1) = j + 1 := wrapI _ (by omega) (by omega)
  have s1 : (0 : Int) ≤ (lo : Int) + T := by omega
  have s2 : (lo : Int) + T ≤ (ct : Int) := by omega
  have s3 : ((lo : Int) + T).toNat = lo + T := by omega
  have s4 : ¬ ct = lo := by omega
  generalize F.tp T tape j = tk at *
  obtain ⟨k1, k2, k3, k4, _, _, _⟩ := hE.out.below hB
  go_enter Try.func209, Try.ntmps209
  go_wp2_with fail
  go_loopw [9, 10, 13] (fun _ _ i wr => ∃ (k : Nat) (vs' : Nat → Value), k ≤ who.length ∧ i = .int .i64 k ∧ Rws w9 wr g2 who.length vs' (fun q => if q < k then ls q ++ [dval sec row tk (point (who.getD q 0))] else ls q) ∧ Blk wr bo #[.slice (some ⟨g2, 0, none⟩) who.length who.length] 66 ∧ Below w9.heap.size w9 wr) (fun _ _ i _ => who.length - (intOf i).toNat)
  case atStart => exact ⟨0, vs, by omega, rfl, hR.congr (fun q _ => by rw [if_neg (Nat.not_lt_zero q)]), hO, hB⟩
  case round =>
    clear hR hO hB k1 k2 k3 k4
    obtain ⟨k, vs', hk, rfl, hR, hO, hB⟩ := hrel
    by_cases hlt : k < who.length
    · obtain ⟨k1, k2, k3, k4, hD, hw, ht⟩ := hE.out.below hB
      obtain ⟨ad, e1, d0⟩ := ki_at (ri_C hw) k hlt
      subst e1
      have hOk : Ob w9 wr (vs' k) (ls k) := by have := hR.own k hlt; simpa using this
      have hpt : Hid ((who.map point).getD k 0 = point (who.getD k 0)) := Lib.hid (map_getD who point 0 0 k hlt)
      have hll2 : Hid ((ls k).length ≤ 1000) := Lib.hid (hll.out k)
      have hval := fun W h1 h2 h3 => Lib.hid (dValue_c g fb sec (who.map point) (.slice Ar row.length cr) (.slice (some (adt.add lo)) T (ct - lo)) row tk k (by rw [List.length_map]; exact hlt) (point (who.getD k 0)) W h1 h2 h3)
      rw [hpt.out, ← hdv.out] at hval
      have hR0 := Lib.hid hR
      have q0 := hO.one
      have hne2 := hR.ne_blk hO (by decide)
      have hbs2 := hR.base
      have q1 := hR.cell k hlt
      have hki : (k : Int) < (who.length : Int) := by omega
      have hDv := hv.below hB
      have hmid1 := hmid.below hB
      generalize hi : who.getD k 0 = i at *
      generalize hy : dval sec row tk (point i) = y at *
      generalize hvk : vs' k = vk at *
      replace hi := Lib.hid hi
      replace hy := Lib.hid hy
      replace hvk := Lib.hid hvk
      have hcg : Hid (∀ q, q < who.length → (if q = k then ls k ++ [y] else if q < k then ls q ++ [dval sec row tk (point (who.getD q 0))] else ls q) = if q < k + 1 then ls q ++ [dval sec row tk (point (who.getD q 0))] else ls q) := Lib.hid (fun q hq => by
        by_cases e1 : q = k
        · subst e1
          rw [if_pos rfl, if_pos (Nat.lt_succ_self q), hi.out, hy.out]
        · rw [if_neg e1]
          by_cases e2 : q < k
          · rw [if_pos e2, if_pos (by omega)]
          · rw [if_neg e2, if_neg (by omega)])
      have hB1 := hB
      clear hB q0 q1 k1 k2 k3 k4 hD hw ht hR
      go_wp2_with fail
      refine wp_region_two 24 [.v (.slice (some ⟨g2, 0, none⟩) who.length who.length), .v (.int .i64 (k : Int)), .v (.slice (some ⟨g2, 0, none⟩) who.length who.length), .v (.int .i64 (k : Int)), .v (.pointer (some ⟨g2, k, none⟩)), .v (vk), .v (.func (.func 208) #[.pointer (some ⟨g, 0, none⟩)] #[]), .v (.slice Ar row.length cr), .v (.slice (some adt) tape.length ct), .v (.int .i64 (j : Int)), .v (.pointer (some ⟨bp, 1, none⟩)), .v (.int .i64 (T : Int)), .v (.int .i64 (lo : Int)), .v (.int .i64 (j : Int)), .v (.int .i64 ((j : Int) + 1)), .v (.pointer (some ⟨bp, 1, none⟩)), .v (.int .i64 (T : Int)), .v (.int .i64 ((lo : Int) + (T : Int))), .v (.slice (some (adt.add lo)) T (ct - lo)), .v (.int .i64 (k : Int)), .v (.int .i64 i), .v (.int .u8 ((point i).n : Int)), .v (.int .u8 (y.n : Int)), .p (isB [y]), .p (fun _ _ => True), .v (.pointer (some ⟨g2, k, none⟩)), .p (fun _ _ => True)] [([], none), ([], none), ([], none), ([], none), ([(2, some 20), (3, some 21)], none), ([(4, some 22)], none), ([], none), ([], none), ([], none), ([], none), ([], none), ([(10, some 28)], none), ([(9, some 27), (11, some 29)], none), ([], none), ([(13, some 31)], none), ([], none), ([(15, some 33)], none), ([(14, some 32), (16, some 34)], none), ([(8, some 26), (12, some 30), (17, some 35)], none), ([], none), ([], none), ([(20, some 38)], none), ([(6, some 24), (7, some 25), (18, some 36), (19, some 37), (21, some 39)], none), ([(22, some 40)], none), ([(5, some 23), (23, some 41)], none), ([(0, some 18), (1, some 19)], none), ([(24, some 42), (25, some 43)], none)] [(0, some 18), (1, some 19), (2, some 20), (3, some 21), (4, some 22), (5, some 23), (6, some 24), (7, some 25), (8, some 26), (9, some 27), (10, some 28), (11, some 29), (12, some 30), (13, some 31), (14, some 32), (15, some 33), (16, some 34), (17, some 35), (18, some 36), (19, some 37), (20, some 38), (21, some 39), (22, some 40), (23, some 41), (24, some 42), (25, some 43), (26, none)] (fun _ _ => True) (fun v W => ∃ A m c Wp, v = .slice A m c ∧ Rws w9 Wp g2 who.length vs' (fun q => if q < k then ls q ++ [dval sec row tk (point (who.getD q 0))] else ls q) ∧ Ob w9 W v (ls k ++ [y]) ∧ Wp.grownBy W vk.ownBlock ∧ (v.ownBlock = vk.ownBlock ∨ ∃ b, v.ownBlock = some b ∧ Wp.heap.size ≤ b) ∧ Blk W bo #[.slice (some ⟨g2, 0, none⟩) who.length who.length] 66 ∧ Below w9.heap.size w9 W) (fun W => (∃ vs'', Rws w9 W g2 who.length vs'' (fun q => if q < k + 1 then ls q ++ [dval sec row tk (point (who.getD q 0))] else ls q)) ∧ Blk W bo #[.slice (some ⟨g2, 0, none⟩) who.length who.length] 66 ∧ Below w9.heap.size w9 W) (by kernel_rfl) (by kernel_rfl) (by kernel_rfl) (by kernel_rfl) (by kernel_rfl) (by kernel_rfl) (by exact ⟨trivial, trivial, trivial, trivial, trivial, trivial, trivial, trivial, trivial, trivial, trivial, trivial, trivial, trivial, trivial, trivial, trivial, trivial, trivial, trivial, trivial, trivial, trivial, last_B _, (fun _ _ _ _ _ => trivial), trivial, (fun _ _ _ _ _ => trivial), trivial⟩) (show 24 < 27 by decide) rfl rfl ⟨.inl ⟨by decide, ?s0⟩, .inr ⟨_, rfl, ?l0⟩, .inl ⟨by decide, ?s1⟩, .inr ⟨_, rfl, ?l1⟩, .inl ⟨by decide, ?s2⟩, .inl (by decide), .inl ⟨by decide, ?s3⟩, .inl (by decide), .inl ⟨by decide, ?s4⟩, .inl (by decide), .inl ⟨by decide, ?s5⟩, .inl (by decide), .inl ⟨by decide, ?s6⟩, .inl (by decide), .inl ⟨by decide, ?s7⟩, .inl (by decide), .inl ⟨by decide, ?s8⟩, .inl (by decide), .inl ⟨by decide, ?s9⟩, .inl (by decide), .inl ⟨by decide, ?s10⟩, .inl (by decide), .inl ⟨by decide, ?s11⟩, .inl (by decide), .inl ⟨by decide, ?s12⟩, .inl (by decide), .inl ⟨by decide, ?s13⟩, .inl (by decide), .inl ⟨by decide, ?s14⟩, .inl (by decide), .inl ⟨by decide, ?s15⟩, .inl (by decide), .inl ⟨by decide, ?s16⟩, .inl (by decide), .inl ⟨by decide, ?s17⟩, .inl (by decide), .inl ⟨by decide, ?s18⟩, .inl (by decide), .inl ⟨by decide, ?s19⟩, .inl (by decide), .inl ⟨by decide, ?s20⟩, .inl (by decide), .inl ⟨by decide, ?s21⟩, .inl (by decide), .inl ⟨by decide, ?s22⟩, .inl (by decide), .inl ⟨by decide, ?s23⟩, .inl (by decide), .inr (.inl ⟨rfl, ?ap⟩), .inl (by decide), .inl ⟨by decide, ?s25⟩, .inr ⟨_, rfl, ?l25⟩, .inr (.inr ⟨rfl, ?sto⟩), .inl (by decide), trivial⟩ ?hQ
      case s0 =>
        intro W hB K hK
        simp only [tellK, Act.put, List.setIfInBounds_toArray, List.set_cons_zero, List.set_cons_succ] at hK ⊢
        refine tell_do rfl ?_
        have q0 := (hO.below hB).one; have q1 := (hR0.out.below hB).cell k hlt; rw [hvk.out] at q1; obtain ⟨k1, k2, k3, k4, hD, hw, ht⟩ := hE.out.below (bt_ hB1 hB)
        go_simp
        exact hK _ (Below.refl _ _)
      case s1 =>
        intro W hB K hK
        simp only [tellK, Act.put, List.setIfInBounds_toArray, List.set_cons_zero, List.set_cons_succ] at hK ⊢
        refine tell_do rfl ?_
        have q0 := (hO.below hB).one; have q1 := (hR0.out.below hB).cell k hlt; rw [hvk.out] at q1; obtain ⟨k1, k2, k3, k4, hD, hw, ht⟩ := hE.out.below (bt_ hB1 hB)
        go_simp
        exact hK _ (Below.refl _ _)
      case s2 =>
        intro W hB K hK
        simp only [tellK, Act.put, List.setIfInBounds_toArray, List.set_cons_zero, List.set_cons_succ] at hK ⊢
        refine tell_do rfl ?_
        have q0 := (hO.below hB).one; have q1 := (hR0.out.below hB).cell k hlt; rw [hvk.out] at q1; obtain ⟨k1, k2, k3, k4, hD, hw, ht⟩ := hE.out.below (bt_ hB1 hB)
        go_simp
        exact hK _ (Below.refl _ _)
      case s3 =>
        intro W hB K hK
        simp only [tellK, Act.put, List.setIfInBounds_toArray, List.set_cons_zero, List.set_cons_succ] at hK ⊢
        refine tell_do rfl ?_
        have q0 := (hO.below hB).one; have q1 := (hR0.out.below hB).cell k hlt; rw [hvk.out] at q1; obtain ⟨k1, k2, k3, k4, hD, hw, ht⟩ := hE.out.below (bt_ hB1 hB)
        go_simp
        exact hK _ (Below.refl _ _)
      case s4 =>
        intro W hB K hK
        simp only [tellK, Act.put, List.setIfInBounds_toArray, List.set_cons_zero, List.set_cons_succ] at hK ⊢
        refine tell_do rfl ?_
        have q0 := (hO.below hB).one; have q1 := (hR0.out.below hB).cell k hlt; rw [hvk.out] at q1; obtain ⟨k1, k2, k3, k4, hD, hw, ht⟩ := hE.out.below (bt_ hB1 hB)
        go_simp
        exact hK _ (Below.refl _ _)
      case s5 =>
        intro W hB K hK
        simp only [tellK, Act.put, List.setIfInBounds_toArray, List.set_cons_zero, List.set_cons_succ] at hK ⊢
        refine tell_do rfl ?_
        have q0 := (hO.below hB).one; have q1 := (hR0.out.below hB).cell k hlt; rw [hvk.out] at q1; obtain ⟨k1, k2, k3, k4, hD, hw, ht⟩ := hE.out.below (bt_ hB1 hB)
        go_simp
        exact hK _ (Below.refl _ _)
      case s6 =>
        intro W hB K hK
        simp only [tellK, Act.put, List.setIfInBounds_toArray, List.set_cons_zero, List.set_cons_succ] at hK ⊢
        refine tell_do rfl ?_
        have q0 := (hO.below hB).one; have q1 := (hR0.out.below hB).cell k hlt; rw [hvk.out] at q1; obtain ⟨k1, k2, k3, k4, hD, hw, ht⟩ := hE.out.below (bt_ hB1 hB)
        go_simp
        exact hK _ (Below.refl _ _)
      case s7 =>
        intro W hB K hK
        simp only [tellK, Act.put, List.setIfInBounds_toArray, List.set_cons_zero, List.set_cons_succ] at hK ⊢
        refine tell_do rfl ?_
        have q0 := (hO.below hB).one; have q1 := (hR0.out.below hB).cell k hlt; rw [hvk.out] at q1; obtain ⟨k1, k2, k3, k4, hD, hw, ht⟩ := hE.out.below (bt_ hB1 hB)
        go_simp
        exact hK _ (Below.refl _ _)
      case s8 =>
        intro W hB K hK
        simp only [tellK, Act.put, List.setIfInBounds_toArray, List.set_cons_zero, List.set_cons_succ] at hK ⊢
        refine tell_do rfl ?_
        have q0 := (hO.below hB).one; have q1 := (hR0.out.below hB).cell k hlt; rw [hvk.out] at q1; obtain ⟨k1, k2, k3, k4, hD, hw, ht⟩ := hE.out.below (bt_ hB1 hB)
        go_simp
        exact hK _ (Below.refl _ _)
      case s9 =>
        intro W hB K hK
        simp only [tellK, Act.put, List.setIfInBounds_toArray, List.set_cons_zero, List.set_cons_succ] at hK ⊢
        refine tell_do rfl ?_
        have q0 := (hO.below hB).one; have q1 := (hR0.out.below hB).cell k hlt; rw [hvk.out] at q1; obtain ⟨k1, k2, k3, k4, hD, hw, ht⟩ := hE.out.below (bt_ hB1 hB)
        go_simp
        exact hK _ (Below.refl _ _)
      case s10 =>
        intro W hB K hK
        simp only [tellK, Act.put, List.setIfInBounds_toArray, List.set_cons_zero, List.set_cons_succ] at hK ⊢
        refine tell_do rfl ?_
        have q0 := (hO.below hB).one; have q1 := (hR0.out.below hB).cell k hlt; rw [hvk.out] at q1; obtain ⟨k1, k2, k3, k4, hD, hw, ht⟩ := hE.out.below (bt_ hB1 hB)
        go_simp
        exact hK _ (Below.refl _ _)
      case s11 =>
        intro W hB K hK
        simp only [tellK, Act.put, List.setIfInBounds_toArray, List.set_cons_zero, List.set_cons_succ] at hK ⊢
        refine tell_do rfl ?_
        have q0 := (hO.below hB).one; have q1 := (hR0.out.below hB).cell k hlt; rw [hvk.out] at q1; obtain ⟨k1, k2, k3, k4, hD, hw, ht⟩ := hE.out.below (bt_ hB1 hB)
        go_simp
        exact hK _ (Below.refl _ _)
      case s12 =>
        intro W hB K hK
        simp only [tellK, Act.put, List.setIfInBounds_toArray, List.set_cons_zero, List.set_cons_succ] at hK ⊢
        refine tell_do rfl ?_
        have q0 := (hO.below hB).one; have q1 := (hR0.out.below hB).cell k hlt; rw [hvk.out] at q1; obtain ⟨k1, k2, k3, k4, hD, hw, ht⟩ := hE.out.below (bt_ hB1 hB)
        go_simp
        exact hK _ (Below.refl _ _)
      case s13 =>
        intro W hB K hK
        simp only [tellK, Act.put, List.setIfInBounds_toArray, List.set_cons_zero, List.set_cons_succ] at hK ⊢
        refine tell_do rfl ?_
        have q0 := (hO.below hB).one; have q1 := (hR0.out.below hB).cell k hlt; rw [hvk.out] at q1; obtain ⟨k1, k2, k3, k4, hD, hw, ht⟩ := hE.out.below (bt_ hB1 hB)
        go_simp
        exact hK _ (Below.refl _ _)
      case s14 =>
        intro W hB K hK
        simp only [tellK, Act.put, List.setIfInBounds_toArray, List.set_cons_zero, List.set_cons_succ] at hK ⊢
        refine tell_do rfl ?_
        have q0 := (hO.below hB).one; have q1 := (hR0.out.below hB).cell k hlt; rw [hvk.out] at q1; obtain ⟨k1, k2, k3, k4, hD, hw, ht⟩ := hE.out.below (bt_ hB1 hB)
        go_simp
        exact hK _ (Below.refl _ _)
      case s15 =>
        intro W hB K hK
        simp only [tellK, Act.put, List.setIfInBounds_toArray, List.set_cons_zero, List.set_cons_succ] at hK ⊢
        refine tell_do rfl ?_
        have q0 := (hO.below hB).one; have q1 := (hR0.out.below hB).cell k hlt; rw [hvk.out] at q1; obtain ⟨k1, k2, k3, k4, hD, hw, ht⟩ := hE.out.below (bt_ hB1 hB)
        go_simp
        exact hK _ (Below.refl _ _)
      case s16 =>
        intro W hB K hK
        simp only [tellK, Act.put, List.setIfInBounds_toArray, List.set_cons_zero, List.set_cons_succ] at hK ⊢
        refine tell_do rfl ?_
        have q0 := (hO.below hB).one; have q1 := (hR0.out.below hB).cell k hlt; rw [hvk.out] at q1; obtain ⟨k1, k2, k3, k4, hD, hw, ht⟩ := hE.out.below (bt_ hB1 hB)
        go_simp
        exact hK _ (Below.refl _ _)
      case s17 =>
        intro W hB K hK
        simp only [tellK, Act.put, List.setIfInBounds_toArray, List.set_cons_zero, List.set_cons_succ] at hK ⊢
        refine tell_do rfl ?_
        have q0 := (hO.below hB).one; have q1 := (hR0.out.below hB).cell k hlt; rw [hvk.out] at q1; obtain ⟨k1, k2, k3, k4, hD, hw, ht⟩ := hE.out.below (bt_ hB1 hB)
        go_simp
        exact hK _ (Below.refl _ _)
      case s18 =>
        intro W hB K hK
        simp only [tellK, Act.put, List.setIfInBounds_toArray, List.set_cons_zero, List.set_cons_succ] at hK ⊢
        refine tell_do rfl ?_
        have q0 := (hO.below hB).one; have q1 := (hR0.out.below hB).cell k hlt; rw [hvk.out] at q1; obtain ⟨k1, k2, k3, k4, hD, hw, ht⟩ := hE.out.below (bt_ hB1 hB)
        go_simp
        exact hK _ (Below.refl _ _)
      case s19 =>
        intro W hB K hK
        simp only [tellK, Act.put, List.setIfInBounds_toArray, List.set_cons_zero, List.set_cons_succ] at hK ⊢
        refine tell_do rfl ?_
        have q0 := (hO.below hB).one; have q1 := (hR0.out.below hB).cell k hlt; rw [hvk.out] at q1; obtain ⟨k1, k2, k3, k4, hD, hw, ht⟩ := hE.out.below (bt_ hB1 hB)
        go_simp
        exact hK _ (Below.refl _ _)
      case s20 =>
        intro W hB K hK
        simp only [tellK, Act.put, List.setIfInBounds_toArray, List.set_cons_zero, List.set_cons_succ] at hK ⊢
        refine tell_do rfl ?_
        have q0 := (hO.below hB).one; have q1 := (hR0.out.below hB).cell k hlt; rw [hvk.out] at q1; obtain ⟨k1, k2, k3, k4, hD, hw, ht⟩ := hE.out.below (bt_ hB1 hB)
        go_simp
        exact hK _ (Below.refl _ _)
      case s21 =>
        intro W hB K hK
        simp only [tellK, Act.put, List.setIfInBounds_toArray, List.set_cons_zero, List.set_cons_succ] at hK ⊢
        refine tell_do rfl ?_
        have q0 := (hO.below hB).one; have q1 := (hR0.out.below hB).cell k hlt; rw [hvk.out] at q1; obtain ⟨k1, k2, k3, k4, hD, hw, ht⟩ := hE.out.below (bt_ hB1 hB)
        go_simp
        go_at_call 58; refine (point_c i _).mono ?_; rintro e w6 ⟨rfl, rfl⟩; exact hK _ (Below.refl _ _)
      case s22 =>
        intro W hB K hK
        simp only [tellK, Act.put, List.setIfInBounds_toArray, List.set_cons_zero, List.set_cons_succ] at hK ⊢
        refine tell_do rfl ?_
        have q0 := (hO.below hB).one; have q1 := (hR0.out.below hB).cell k hlt; rw [hvk.out] at q1; obtain ⟨k1, k2, k3, k4, hD, hw, ht⟩ := hE.out.below (bt_ hB1 hB)
        go_simp
        go_at_call 208; refine (hval _ hD (hDv.below hB) (hmid1.below hB)).out.mono ?_; rintro e w7 ⟨rfl, h7⟩; exact hK _ h7.below
      case s23 =>
        intro W hB K hK
        simp only [tellK, Act.put, List.setIfInBounds_toArray, List.set_cons_zero, List.set_cons_succ] at hK ⊢
        refine tell_do rfl ?_
        have q0 := (hO.below hB).one; have q1 := (hR0.out.below hB).cell k hlt; rw [hvk.out] at q1; obtain ⟨k1, k2, k3, k4, hD, hw, ht⟩ := hE.out.below (bt_ hB1 hB)
        go_simp
        exact hK _ _ (lit_b W [y] _ _ _ _ rfl rfl (by decide) (by decide)) (alloc_b _ _)
      case s25 =>
        intro W hB K hK
        simp only [tellK, Act.put, List.setIfInBounds_toArray, List.set_cons_zero, List.set_cons_succ] at hK ⊢
        refine tell_do rfl ?_
        have q0 := (hO.below hB).one; have q1 := (hR0.out.below hB).cell k hlt; rw [hvk.out] at q1; obtain ⟨k1, k2, k3, k4, hD, hw, ht⟩ := hE.out.below (bt_ hB1 hB)
        go_simp
        exact hK _ (Below.refl _ _)
      case l0 =>
        intro v W hM
        simp only [tellGo]
        intro K hK
        simp only [Act.put, List.setIfInBounds_toArray, List.set_cons_zero, List.set_cons_succ] at hK ⊢
        refine tell_do rfl ?_
        obtain ⟨A, m, c, Wp, rfl, hRp, hOp, hgp, hatp, hbo', hbB⟩ := hM; have q0 := hbo'.one
        go_simp
        exact hK _ _ ⟨rfl, rfl⟩
      case l1 =>
        intro v W hM
        simp only [tellGo]
        intro K hK
        simp only [Act.put, List.setIfInBounds_toArray, List.set_cons_zero, List.set_cons_succ] at hK ⊢
        refine tell_do rfl ?_
        obtain ⟨A, m, c, Wp, rfl, hRp, hOp, hgp, hatp, hbo', hbB⟩ := hM; have q0 := hbo'.one
        go_simp
        exact hK _ _ ⟨rfl, rfl⟩
      case l25 =>
        intro v W hM
        simp only [bareL, List.map_cons, List.map_nil, List.set_cons_zero, List.set_cons_succ, tellGo, sayAt, List.getD_cons_zero, List.getD_cons_succ]
        intro K hK
        simp only [Act.put, List.setIfInBounds_toArray, List.set_cons_zero, List.set_cons_succ] at hK ⊢
        refine tell_do rfl ?_
        obtain ⟨A, m, c, Wp, rfl, hRp, hOp, hgp, hatp, hbo', hbB⟩ := hM; have q0 := hbo'.one
        go_simp
        exact hK _ _ ⟨rfl, rfl⟩
      case ap =>
        intro W hB v23 h23 K hK
        replace h23 : Rb W v23 [y] := h23
        simp only [Act.put, List.setIfInBounds_toArray, List.set_cons_zero, List.set_cons_succ] at hK ⊢
        refine tell_do rfl ?_
        have q0 := (hO.below hB).one; have q1 := (hR0.out.below hB).cell k hlt; rw [hvk.out] at q1; obtain ⟨k1, k2, k3, k4, hD, hw, ht⟩ := hE.out.below (bt_ hB1 hB)
        have hOk1 := hOk.below hB
        refine wp_app_z (w0 := w9) (.tmp 23) (.tmp 41) (by rfl) vk (ls k) v23 [y] (by rfl) (by rfl) hOk1 h23 Nat.one_pos (bt_ hB1 hB) (by have := hll2.out; show (ls k).length + 1 ≤ 1000000000; omega) ?_
        intro ga na ca wa ho1 hb1 hg1 hat1
        exact hK _ _ ⟨_, _, _, W, rfl, hR0.out.below hB, ho1, hg1, hat1, (hR0.out.below hB).grown k hlt (hO.below hB) (by decide) (by rw [hvk.out]; exact hg1), hb1⟩
      case sto =>
        intro v W hM
        simp only [bareL, List.map_cons, List.map_nil, List.set_cons_zero, List.set_cons_succ, tellGo, sayAt, List.getD_cons_zero, List.getD_cons_succ]
        intro K hK
        simp only [Act.put, List.setIfInBounds_toArray, List.set_cons_zero, List.set_cons_succ] at hK ⊢
        refine tell_do rfl ?_
        obtain ⟨A, m, c, Wp, rfl, hRp, hOp, hgp, hatp, hbo', hbB⟩ := hM
        obtain ⟨z1, z2⟩ := hRp.slot k hlt (by rw [hvk.out]; exact hgp)
        rw [hvk.out] at z1
        go_simp
        have hRn := hRp.put k hlt hOp (by rw [hvk.out]; exact hgp) (by rw [hvk.out]; exact hatp)
        exact hK undef _ ⟨⟨_, hRn.congr hcg.out⟩, hbo'.far hne2 k _, below_set hbB hRp.base⟩
      case hQ =>
        intro v W hP
        simp only [bareL, List.map_cons, List.map_nil, List.set_cons_zero, List.set_cons_succ, tellGo, sayAt, List.getD_cons_zero, List.getD_cons_succ]
        intro v23 _ v26 _
        simp only [Act.put, List.setIfInBounds_toArray, List.set_cons_zero, List.set_cons_succ]
        obtain ⟨⟨vs'', hR2⟩, hO2, hB2⟩ := hP
        go_wp2
        exact ⟨⟨k + 1, vs'', by omega, by go_num, hR2, hO2, hB2⟩, by simp [intOf]; try omega⟩
    · obtain rfl : k = who.length := by omega
      go_wp2
      go_end0
      exact ⟨rfl, vs', hR.congr (fun q hq => by rw [if_pos hq]), hO, hB⟩
end Go.Proofs.Ytijeabhfddaoaaa

/- The walk of deal.some. -/
namespace Go.Proofs.Ytijeabhfddaoaaa
set_option linter.unusedVariables false
open Go.RowKit Go.Proofs.YtijeabhfddaoaaaW.PrintWords Go.Proofs.Sh

theorem polys_len (p : Pl) (b tape : List F) : (polysOf p b tape).length = F.nS p.L.toNat b.length := by unfold polysOf; rw [List.length_map, List.length_range]
theorem polys_at (p : Pl) (b tape : List F) (j : Nat) (hj : j < F.nS p.L.toNat b.length) : (polysOf p b tape).getD j [] = F.dpoly (secretsAt p) (F.rowOf p.L.toNat b j) (F.tp p.T.toNat tape j) := by
  simp [polysOf, List.getD_eq_getElem?_getD, hj]
set_option maxRecDepth 100000 in
set_option maxHeartbeats 3200000 in
theorem dSome_ok (b : Nat) (p : Pl) (h : p.Ok) (v tv wv : Value) (blob tape : List F) (who : List Int) (w : World) (hF : IsField w b) (hv : Rb w v blob) (ht : Rb w tv tape) (hw : Ri w wv who) (hl : blob.length ≤ 240) (hwl : who.length ≤ 1000) (hlen : p.T * (F.nS p.L.toNat blob.length : Int) ≤ (tape.length : Int)) :
   Calls Try.prog 188 #[fp b, planV p, v, tv, wv] w fun e w' => ∃ g vs, e = .returned (.tuple #[.slice (some ⟨g, 0, none⟩) who.length who.length, .int .i64 0]) ∧ Rws w w' g who.length vs (fun k => F.dshare (polysOf p blob tape) (point (who.getD k 0))) ∧ Below w.heap.size w w' := by
  have eT : Hid ((p.T.toNat : Int) = p.T ∧ 1 ≤ p.T.toNat ∧ p.T.toNat ≤ 256 ∧ F.nS p.L.toNat blob.length * p.T.toNat ≤ tape.length) := Lib.hid (by
    have h1 := h.t; have h2 := h.l; have h3 := h.tl; have h4 := h.wn; have h5 := h.nl
    have e0 : (p.T.toNat : Int) = p.T := by omega
    have e := Int.natCast_mul p.T.toNat (F.nS p.L.toNat blob.length)
    rw [e0] at e
    exact ⟨e0, by omega, by omega, by rw [Nat.mul_comm]; omega⟩)
  have eS : Hid (F.nS p.L.toNat blob.length ≤ 240) := Lib.hid (Nat.le_trans (F.nS_le_len _ blob.length (by have := h.l; omega)) hl)
  have tc : decide ((tape.length : Int) < p.T * (F.nS p.L.toNat blob.length : Int)) = false := decide_eq_false (by omega)
  obtain ⟨Av, cv, rfl⟩ := rk_form hv
  obtain ⟨At, ct, rfl⟩ := rk_form ht
  obtain ⟨Aw, cw, rfl⟩ := rk_form hw
  have HP := ((Blk.new w (planC p) 33).alloc (.cells #[.slice At tape.length ct] 40)).alloc (.cells #[.slice Aw who.length cw] 36)
  have HT := (Blk.new' (w.alloc (.cells (planC p) 33)) #[.slice At tape.length ct] 40 (World.size_alloc _ _)).alloc (.cells #[.slice Aw who.length cw] 36)
  have HW := Blk.new' ((w.alloc (.cells (planC p) 33)).alloc (.cells #[.slice At tape.length ct] 40)) #[.slice Aw who.length cw] 36 (by rw [World.size_alloc, World.size_alloc])
  have hB0 := below_alloc (below_alloc (below_alloc (Below.refl w.heap.size w) (.cells (planC p) 33)) (.cells #[.slice At tape.length ct] 40)) (.cells #[.slice Aw who.length cw] 36)
  replace hF := hF.below hB0
  replace hv := hv.below hB0
  replace ht := ht.below hB0
  replace hw := hw.below hB0
  go_enter Try.func188, Try.ntmps188
  go_wp2_with fail
  generalize ((w.alloc (.cells (planC p) 33)).alloc (.cells #[.slice At tape.length ct] 40)).alloc (.cells #[.slice Aw who.length cw] 36) = w1 at *
  obtain ⟨c0, c1, c2, c3, c4, c5⟩ := cells6 HP
  go_wp2_with fail
  refine (sCut_ok p h _ blob _ hv hl).mono ?_
  rintro e w2 ⟨vR, rfl, oR, h2⟩
  replace HP := HP.below h2
  replace HT := HT.below h2
  replace HW := HW.below h2
  replace hF := hF.below h2
  replace hv := hv.below h2
  replace ht := ht.below h2
  replace hw := hw.below h2
  replace hB0 := bt_ hB0 h2
  replace oR := oR.rk
  clear h2 c0 c1 c2 c3 c4 c5
  obtain ⟨AR, cR, rfl⟩ := rk_form oR
  rw [F.cutOf_len] at oR ⊢
  go_wp2_with fail
  refine wp_region_tell [.v (.slice At tape.length ct), .v (.int .i64 (tape.length : Int)), .v (planV p), .v (.slice Av blob.length cv), .v (.int .i64 (blob.length : Int)), .v (.int .i64 (p.T * (F.nS p.L.toNat blob.length : Int))), .v (.bool false), .v (.bool false)] [([], none), ([(0, some 30)], none), ([], none), ([], none), ([(3, some 33)], none), ([(2, some 32), (4, some 34)], none), ([(1, some 31), (5, some 35)], none), ([(6, some 36)], none)] [(0, some 30), (1, some 31), (2, some 32), (3, some 33), (4, some 34), (5, some 35), (6, some 36), (7, some 29)] (by kernel_rfl) (by kernel_rfl) (by kernel_rfl) (by kernel_rfl) (by exact ⟨trivial, trivial, trivial, trivial, trivial, trivial, trivial, trivial, trivial⟩) ⟨?s0, ?s1, ?s2, ?s3, ?s4, ?s5, ?s6, ?s7, trivial⟩ ?hQ
  case s0 =>
    intro W hB K hK
    simp only [tellK, Act.put, List.setIfInBounds_toArray, List.set_cons_zero, List.set_cons_succ] at hK ⊢
    refine tell_do rfl ?_
    obtain ⟨c0, c1, c2, c3, c4, c5⟩ := cells6 (HP.below hB); have t0 := (HT.below hB).one
    go_simp
    exact hK _ (Below.refl _ _)
  case s1 =>
    intro W hB K hK
    simp only [tellK, Act.put, List.setIfInBounds_toArray, List.set_cons_zero, List.set_cons_succ] at hK ⊢
    refine tell_do rfl ?_
    obtain ⟨c0, c1, c2, c3, c4, c5⟩ := cells6 (HP.below hB); have t0 := (HT.below hB).one
    go_simp
    exact hK _ (Below.refl _ _)
  case s2 =>
    intro W hB K hK
    simp only [tellK, Act.put, List.setIfInBounds_toArray, List.set_cons_zero, List.set_cons_succ] at hK ⊢
    refine tell_do rfl ?_
    obtain ⟨c0, c1, c2, c3, c4, c5⟩ := cells6 (HP.below hB); have t0 := (HT.below hB).one
    go_simp
    exact hK _ (Below.refl _ _)
  case s3 =>
    intro W hB K hK
    simp only [tellK, Act.put, List.setIfInBounds_toArray, List.set_cons_zero, List.set_cons_succ] at hK ⊢
    refine tell_do rfl ?_
    obtain ⟨c0, c1, c2, c3, c4, c5⟩ := cells6 (HP.below hB); have t0 := (HT.below hB).one
    go_simp
    exact hK _ (Below.refl _ _)
  case s4 =>
    intro W hB K hK
    simp only [tellK, Act.put, List.setIfInBounds_toArray, List.set_cons_zero, List.set_cons_succ] at hK ⊢
    refine tell_do rfl ?_
    obtain ⟨c0, c1, c2, c3, c4, c5⟩ := cells6 (HP.below hB); have t0 := (HT.below hB).one
    go_simp
    exact hK _ (Below.refl _ _)
  case s5 =>
    intro W hB K hK
    simp only [tellK, Act.put, List.setIfInBounds_toArray, List.set_cons_zero, List.set_cons_succ] at hK ⊢
    refine tell_do rfl ?_
    obtain ⟨c0, c1, c2, c3, c4, c5⟩ := cells6 (HP.below hB); have t0 := (HT.below hB).one
    go_simp
    go_at_call 132; refine (dCost_ok p h blob.length hl _).mono ?_; rintro e w6 ⟨rfl, h6⟩; exact hK _ h6
  case s6 =>
    intro W hB K hK
    simp only [tellK, Act.put, List.setIfInBounds_toArray, List.set_cons_zero, List.set_cons_succ] at hK ⊢
    refine tell_do rfl ?_
    obtain ⟨c0, c1, c2, c3, c4, c5⟩ := cells6 (HP.below hB); have t0 := (HT.below hB).one
    go_simp
    exact hK _ (Below.refl _ _)
  case s7 =>
    intro W hB K hK
    simp only [tellK, Act.put, List.setIfInBounds_toArray, List.set_cons_zero, List.set_cons_succ] at hK ⊢
    refine tell_do rfl ?_
    obtain ⟨c0, c1, c2, c3, c4, c5⟩ := cells6 (HP.below hB); have t0 := (HT.below hB).one
    go_simp
    exact hK _ (Below.refl _ _)
  case hQ =>
    intro W hB
    simp only [tellGo, sayAt, List.getD_cons_zero, List.getD_cons_succ, Act.put, List.setIfInBounds_toArray, List.set_cons_zero, List.set_cons_succ]
    replace HP := HP.below hB
    replace HT := HT.below hB
    replace HW := HW.below hB
    replace hF := hF.below hB
    replace hv := hv.below hB
    replace ht := ht.below hB
    replace hw := hw.below hB
    replace hB0 := bt_ hB0 hB
    replace oR := oR.below hB
    clear hB
    obtain ⟨c0, c1, c2, c3, c4, c5⟩ := cells6 HP
    have q0 := HW.one
    go_wp2_with fail
    refine (newDealer_c b p h _ who _ hF hw hwl).mono ?_
    rintro e w4 ⟨gd, rfl, hD, h4⟩
    replace HP := HP.below h4
    replace HT := HT.below h4
    replace HW := HW.below h4
    replace hF := hF.below h4
    replace hv := hv.below h4
    replace ht := ht.below h4
    replace hw := hw.below h4
    replace hB0 := bt_ hB0 h4
    replace oR := oR.below h4
    clear h4 c0 c1 c2 c3 c4 c5 q0
    have q0 := HW.one
    have HN := Blk.new w4 #[.func (.func 208) #[.pointer (some ⟨gd, 0, none⟩)] #[]] 180
    have hNb := below_alloc (Below.refl w4.heap.size w4) (.cells #[.func (.func 208) #[.pointer (some ⟨gd, 0, none⟩)] #[]] 180)
    replace HP := HP.below hNb
    replace HT := HT.below hNb
    replace HW := HW.below hNb
    replace hF := hF.below hNb
    replace hv := hv.below hNb
    replace ht := ht.below hNb
    replace hw := hw.below hNb
    replace hB0 := bt_ hB0 hNb
    replace oR := oR.below hNb
    replace hD := hD.below hNb
    clear hNb
    have q0 := HW.one
    go_wp2_with ((with_reducible refine gate_dst (N := 44) rfl ?_); refine halt ?_)
    refine ⟨?_⟩
    generalize w4.alloc (.cells #[.func (.func 208) #[.pointer (some ⟨gd, 0, none⟩)] #[]] 180) = w9 at *
    generalize w4.heap.size = bv at *
    go_wp2_with ((with_reducible refine gate_dst (N := 44) rfl ?_); refine mk_raw rfl (N := 44) rfl 66 40 _ _ rfl who.length rfl rfl Try.underlying66 (.slice none 0 0) 24 infoR rfl (by decide) (by omega) ?_)
    have hRw := (Rws.made w9 w9 who.length (Nat.le_refl _)).below (below_alloc (Below.refl _ _) (.cells #[.slice (some ⟨w9.heap.size, 0, none⟩) who.length who.length] 66))
    have hBo := Blk.new' (w9.alloc (.cells (madeCells #[.slice none 0 0] who.length) 40)) #[.slice (some ⟨w9.heap.size, 0, none⟩) who.length who.length] 66 (World.size_alloc _ _)
    have hB9 := below_alloc (below_alloc (Below.refl w9.heap.size w9) (.cells (madeCells #[.slice none 0 0] who.length) 40)) (.cells #[.slice (some ⟨w9.heap.size, 0, none⟩) who.length who.length] 66)
    generalize (w9.alloc (.cells (madeCells #[.slice none 0 0] who.length) 40)).alloc (.cells #[.slice (some ⟨w9.heap.size, 0, none⟩) who.length who.length] 66) = wi at *
    have hE : Hid (SEnv w9 (w.heap.size + 1 + 1) bv (w.heap.size + 1) w.heap.size gd b p.T.toNat _ _ (secretsAt p) who tape) := Lib.hid ⟨HW.one, HN.one, HT.one, by rw [eT.out.1]; exact HP.cell 1 _ rfl, hD, hw, ht⟩
    clear HP HT HW HN hD hF hv ht hw q0
    go_loopw [17, 18, 48] (fun _ _ i wr => ∃ (j : Nat) (vs : Nat → Value), j ≤ F.nS p.L.toNat blob.length ∧ i = .int .i64 j ∧ Rws w9 wr w9.heap.size who.length vs (fun k => F.dshare ((polysOf p blob tape).take j) (point (who.getD k 0))) ∧ Blk wr (w9.heap.size + 1) #[.slice (some ⟨w9.heap.size, 0, none⟩) who.length who.length] 66 ∧ Below w9.heap.size w9 wr) (fun _ _ i _ => F.nS p.L.toNat blob.length - (intOf i).toNat)
    case atStart => exact ⟨0, _, by omega, rfl, hRw, hBo, hB9⟩
    case round =>
      clear hRw hBo hB9
      obtain ⟨j, vs, hj, rfl, hR, hO, hB⟩ := hrel
      by_cases hlt : j < F.nS p.L.toNat blob.length
      · obtain ⟨ad, u5, e1, d0, hu5⟩ := kbb_at (rk_C oR) j (by rw [F.cutOf_len]; exact hlt)
        subst e1
        rw [F.cutOf_at _ _ _ _ hlt] at hu5
        have d0 := pw_cell_below hB d0
        obtain ⟨A5, n5, rfl⟩ := rk_form hu5
        have hji : (j : Int) < (F.nS p.L.toNat blob.length : Int) := by omega
        have hl2 : (j + 1) * p.T.toNat ≤ tape.length := Nat.le_trans (Nat.mul_le_mul_right _ hlt) eT.out.2.2.2
        have hll : ∀ k, (F.dshare ((polysOf p blob tape).take j) (point (who.getD k 0))).length ≤ 1000 := fun k => by rw [F.dshare_len, List.length_take]; have := eS.out; omega
        have hst : Hid (∀ x, F.dshare ((polysOf p blob tape).take j) x ++ [dval (secretsAt p) (F.rowOf p.L.toNat blob j) (F.tp p.T.toNat tape j) x] = F.dshare ((polysOf p blob tape).take (j + 1)) x) := Lib.hid (fun x => by
          rw [F.dshare_take _ _ _ (by rw [polys_len]; exact hlt), polys_at p blob tape j hlt, F.ev_dpoly _ _ _ _ (L_small p h)]
          rfl)
        have hj240 : j < 240 := Nat.lt_of_lt_of_le hlt eS.out
        clear hlt hj
        replace hu5 := Lib.hid hu5
        replace hl2 := Lib.hid hl2
        replace hll := Lib.hid hll
        generalize F.nS p.L.toNat blob.length = S at *
        generalize F.rowOf p.L.toNat blob j = row at *
        go_wp2_with fail
        refine (dEach_c w9 wr (w.heap.size + 1 + 1) (w9.heap.size + 1) bv (w.heap.size + 1) w.heap.size gd w9.heap.size b p.T.toNat _ _ _ (secretsAt p) who tape row vs _ j hB hE.out hO (by omega) hR hu5.out hwl eT.out.2.1 eT.out.2.2.1 hj240 hl2.out hll.out).mono ?_
        rintro e w5 ⟨rfl, vs', hR', hO', hB'⟩
        go_wp2
        exact ⟨⟨j + 1, vs', by omega, by go_num, hR'.congr (fun k _ => hst.out _), hO', hB'⟩, by simp [intOf]; try omega⟩
      · obtain rfl : j = F.nS p.L.toNat blob.length := by omega
        rw [List.take_of_length_le (by rw [polys_len]; exact Nat.le_refl _)] at hR
        have o0 := hO.one
        go_wp2
        go_ret2
        exact ⟨_, vs, rfl, hR.lower hB0, bt_ hB0 hB⟩
end Go.Proofs.Ytijeabhfddaoaaa

/- The walks of deal.some (refused), deal.Deal, deal.Share. -/
namespace Go.Proofs.Ytijeabhfddaoaaa
set_option linter.unusedVariables false
open Go.RowKit Go.Proofs.YtijeabhfddaoaaaW.PrintWords Go.Proofs.Sh


/-- What is wrong with a blob and a tape. -/
def dealBad (p : Pl) (blob tape : List F) (c : Int) : Prop :=
  (¬ p.Ok ∧ c = 1) ∨ (p.Ok ∧ ¬ blob.length ≤ 240 ∧ c = 7) ∨ (p.Ok ∧ blob.length ≤ 240 ∧ (tape.length : Int) < p.T * (F.nS p.L.toNat blob.length : Int) ∧ c = 12)
set_option maxRecDepth 100000 in
set_option maxHeartbeats 3200000 in
theorem dSome_err (fv : Value) (p : Pl) (c : Int) (v tv wv : Value) (blob tape : List F) (who : List Int) (w : World) (hv : Rb w v blob) (ht : Rb w tv tape) (hw : Ri w wv who) (hc : dealBad p blob tape c) :
   Calls Try.prog 188 #[fv, planV p, v, tv, wv] w fun e w' => e = .returned (.tuple #[.slice none 0 0, .int .i64 c]) ∧ Below w.heap.size w w' := by
  rcases hc with ⟨h, rfl⟩ | ⟨h, hl, rfl⟩ | ⟨h, hl, hlen, rfl⟩
  · obtain ⟨Av, cv, rfl⟩ := rk_form hv
    obtain ⟨At, ct, rfl⟩ := rk_form ht
    obtain ⟨Aw, cw, rfl⟩ := rk_form hw
    have HP := ((Blk.new w (planC p) 33).alloc (.cells #[.slice At tape.length ct] 40)).alloc (.cells #[.slice Aw who.length cw] 36)
    have HT := (Blk.new' (w.alloc (.cells (planC p) 33)) #[.slice At tape.length ct] 40 (World.size_alloc _ _)).alloc (.cells #[.slice Aw who.length cw] 36)
    have HW := Blk.new' ((w.alloc (.cells (planC p) 33)).alloc (.cells #[.slice At tape.length ct] 40)) #[.slice Aw who.length cw] 36 (by rw [World.size_alloc, World.size_alloc])
    have hB0 := below_alloc (below_alloc (below_alloc (Below.refl w.heap.size w) (.cells (planC p) 33)) (.cells #[.slice At tape.length ct] 40)) (.cells #[.slice Aw who.length cw] 36)
    replace hv := hv.below hB0
    replace ht := ht.below hB0
    replace hw := hw.below hB0
    go_enter Try.func188, Try.ntmps188
    go_wp2_with fail
    generalize ((w.alloc (.cells (planC p) 33)).alloc (.cells #[.slice At tape.length ct] 40)).alloc (.cells #[.slice Aw who.length cw] 36) = w1 at *
    obtain ⟨c0, c1, c2, c3, c4, c5⟩ := cells6 HP
    go_wp2_with fail
    refine (sCut_no p h _ _).mono ?_
    rintro e w2 ⟨rfl, h2⟩
    go_wp2
    go_ret2
    exact ⟨rfl, bt_ hB0 h2⟩
  · obtain ⟨Av, cv, rfl⟩ := rk_form hv
    obtain ⟨At, ct, rfl⟩ := rk_form ht
    obtain ⟨Aw, cw, rfl⟩ := rk_form hw
    have HP := ((Blk.new w (planC p) 33).alloc (.cells #[.slice At tape.length ct] 40)).alloc (.cells #[.slice Aw who.length cw] 36)
    have HT := (Blk.new' (w.alloc (.cells (planC p) 33)) #[.slice At tape.length ct] 40 (World.size_alloc _ _)).alloc (.cells #[.slice Aw who.length cw] 36)
    have HW := Blk.new' ((w.alloc (.cells (planC p) 33)).alloc (.cells #[.slice At tape.length ct] 40)) #[.slice Aw who.length cw] 36 (by rw [World.size_alloc, World.size_alloc])
    have hB0 := below_alloc (below_alloc (below_alloc (Below.refl w.heap.size w) (.cells (planC p) 33)) (.cells #[.slice At tape.length ct] 40)) (.cells #[.slice Aw who.length cw] 36)
    replace hv := hv.below hB0
    replace ht := ht.below hB0
    replace hw := hw.below hB0
    go_enter Try.func188, Try.ntmps188
    go_wp2_with fail
    generalize ((w.alloc (.cells (planC p) 33)).alloc (.cells #[.slice At tape.length ct] 40)).alloc (.cells #[.slice Aw who.length cw] 36) = w1 at *
    obtain ⟨c0, c1, c2, c3, c4, c5⟩ := cells6 HP
    go_wp2_with fail
    refine (sCut_big p h _ blob _ hv hl).mono ?_
    rintro e w2 ⟨rfl, h2⟩
    go_wp2
    go_ret2
    exact ⟨rfl, bt_ hB0 h2⟩
  · have tc : decide ((tape.length : Int) < p.T * (F.nS p.L.toNat blob.length : Int)) = true := decide_eq_true hlen
    obtain ⟨Av, cv, rfl⟩ := rk_form hv
    obtain ⟨At, ct, rfl⟩ := rk_form ht
    obtain ⟨Aw, cw, rfl⟩ := rk_form hw
    have HP := ((Blk.new w (planC p) 33).alloc (.cells #[.slice At tape.length ct] 40)).alloc (.cells #[.slice Aw who.length cw] 36)
    have HT := (Blk.new' (w.alloc (.cells (planC p) 33)) #[.slice At tape.length ct] 40 (World.size_alloc _ _)).alloc (.cells #[.slice Aw who.length cw] 36)
    have HW := Blk.new' ((w.alloc (.cells (planC p) 33)).alloc (.cells #[.slice At tape.length ct] 40)) #[.slice Aw who.length cw] 36 (by rw [World.size_alloc, World.size_alloc])
    have hB0 := below_alloc (below_alloc (below_alloc (Below.refl w.heap.size w) (.cells (planC p) 33)) (.cells #[.slice At tape.length ct] 40)) (.cells #[.slice Aw who.length cw] 36)
    replace hv := hv.below hB0
    replace ht := ht.below hB0
    replace hw := hw.below hB0
    go_enter Try.func188, Try.ntmps188
    go_wp2_with fail
    generalize ((w.alloc (.cells (planC p) 33)).alloc (.cells #[.slice At tape.length ct] 40)).alloc (.cells #[.slice Aw who.length cw] 36) = w1 at *
    obtain ⟨c0, c1, c2, c3, c4, c5⟩ := cells6 HP
    go_wp2_with fail
    refine (sCut_ok p h _ blob _ hv hl).mono ?_
    rintro e w2 ⟨vR, rfl, oR, h2⟩
    replace HP := HP.below h2
    replace HT := HT.below h2
    replace HW := HW.below h2
    replace hv := hv.below h2
    replace ht := ht.below h2
    replace hw := hw.below h2
    replace hB0 := bt_ hB0 h2
    clear h2 c0 c1 c2 c3 c4 c5
    obtain ⟨AR, cR, rfl⟩ := rk_form oR.rk
    go_wp2_with fail
    refine wp_region_tell [.v (.slice At tape.length ct), .v (.int .i64 (tape.length : Int)), .v (planV p), .v (.slice Av blob.length cv), .v (.int .i64 (blob.length : Int)), .v (.int .i64 (p.T * (F.nS p.L.toNat blob.length : Int))), .v (.bool true), .v (.bool true)] [([], none), ([(0, some 30)], none), ([], none), ([], none), ([(3, some 33)], none), ([(2, some 32), (4, some 34)], none), ([(1, some 31), (5, some 35)], none), ([(6, some 36)], none)] [(0, some 30), (1, some 31), (2, some 32), (3, some 33), (4, some 34), (5, some 35), (6, some 36), (7, some 29)] (by kernel_rfl) (by kernel_rfl) (by kernel_rfl) (by kernel_rfl) (by exact ⟨trivial, trivial, trivial, trivial, trivial, trivial, trivial, trivial, trivial⟩) ⟨?s0, ?s1, ?s2, ?s3, ?s4, ?s5, ?s6, ?s7, trivial⟩ ?hQ
    case s0 =>
      intro W hB K hK
      simp only [tellK, Act.put, List.setIfInBounds_toArray, List.set_cons_zero, List.set_cons_succ] at hK ⊢
      refine tell_do rfl ?_
      obtain ⟨c0, c1, c2, c3, c4, c5⟩ := cells6 (HP.below hB); have t0 := (HT.below hB).one
      go_simp
      exact hK _ (Below.refl _ _)
    case s1 =>
      intro W hB K hK
      simp only [tellK, Act.put, List.setIfInBounds_toArray, List.set_cons_zero, List.set_cons_succ] at hK ⊢
      refine tell_do rfl ?_
      obtain ⟨c0, c1, c2, c3, c4, c5⟩ := cells6 (HP.below hB); have t0 := (HT.below hB).one
      go_simp
      exact hK _ (Below.refl _ _)
    case s2 =>
      intro W hB K hK
      simp only [tellK, Act.put, List.setIfInBounds_toArray, List.set_cons_zero, List.set_cons_succ] at hK ⊢
      refine tell_do rfl ?_
      obtain ⟨c0, c1, c2, c3, c4, c5⟩ := cells6 (HP.below hB); have t0 := (HT.below hB).one
      go_simp
      exact hK _ (Below.refl _ _)
    case s3 =>
      intro W hB K hK
      simp only [tellK, Act.put, List.setIfInBounds_toArray, List.set_cons_zero, List.set_cons_succ] at hK ⊢
      refine tell_do rfl ?_
      obtain ⟨c0, c1, c2, c3, c4, c5⟩ := cells6 (HP.below hB); have t0 := (HT.below hB).one
      go_simp
      exact hK _ (Below.refl _ _)
    case s4 =>
      intro W hB K hK
      simp only [tellK, Act.put, List.setIfInBounds_toArray, List.set_cons_zero, List.set_cons_succ] at hK ⊢
      refine tell_do rfl ?_
      obtain ⟨c0, c1, c2, c3, c4, c5⟩ := cells6 (HP.below hB); have t0 := (HT.below hB).one
      go_simp
      exact hK _ (Below.refl _ _)
    case s5 =>
      intro W hB K hK
      simp only [tellK, Act.put, List.setIfInBounds_toArray, List.set_cons_zero, List.set_cons_succ] at hK ⊢
      refine tell_do rfl ?_
      obtain ⟨c0, c1, c2, c3, c4, c5⟩ := cells6 (HP.below hB); have t0 := (HT.below hB).one
      go_simp
      go_at_call 132; refine (dCost_ok p h blob.length hl _).mono ?_; rintro e w6 ⟨rfl, h6⟩; exact hK _ h6
    case s6 =>
      intro W hB K hK
      simp only [tellK, Act.put, List.setIfInBounds_toArray, List.set_cons_zero, List.set_cons_succ] at hK ⊢
      refine tell_do rfl ?_
      obtain ⟨c0, c1, c2, c3, c4, c5⟩ := cells6 (HP.below hB); have t0 := (HT.below hB).one
      go_simp
      exact hK _ (Below.refl _ _)
    case s7 =>
      intro W hB K hK
      simp only [tellK, Act.put, List.setIfInBounds_toArray, List.set_cons_zero, List.set_cons_succ] at hK ⊢
      refine tell_do rfl ?_
      obtain ⟨c0, c1, c2, c3, c4, c5⟩ := cells6 (HP.below hB); have t0 := (HT.below hB).one
      go_simp
      exact hK _ (Below.refl _ _)
    case hQ =>
      intro W hB
      simp only [tellGo, sayAt, List.getD_cons_zero, List.getD_cons_succ, Act.put, List.setIfInBounds_toArray, List.set_cons_zero, List.set_cons_succ]
      go_wp2
      go_ret2
      exact ⟨rfl, bt_ hB0 hB⟩
/-- Rows of one's own, as a saying. -/
def isRw (w0 : World) (n : Nat) (ls : Nat → List F) : Value → World → Prop := fun v W => ∃ g vs, v = .slice (some ⟨g, 0, none⟩) n n ∧ Rws w0 W g n vs ls
theorem last_Rw (w0 : World) (n : Nat) (ls : Nat → List F) : Lasts (isRw w0 n ls) := fun _ _ _ ⟨g, vs, e, h⟩ hB => ⟨g, vs, e, h.below hB⟩
def isTRw (w0 : World) (n : Nat) (ls : Nat → List F) : Value → World → Prop := fun v W => ∃ g vs, v = .tuple #[.slice (some ⟨g, 0, none⟩) n n, .int .i64 0] ∧ Rws w0 W g n vs ls
theorem last_TRw (w0 : World) (n : Nat) (ls : Nat → List F) : Lasts (isTRw w0 n ls) := fun _ _ _ ⟨g, vs, e, h⟩ hB => ⟨g, vs, e, h.below hB⟩
/-- All shares of a blob. -/
def shs (p : Pl) (blob tape : List F) : Nat → List F := fun k => F.dshare (polysOf p blob tape) (point ((k : Int) + 1))
theorem all_getD (p : Pl) (k : Nat) (hk : k < p.N.toNat) : (allOf p).getD k 0 = (k : Int) + 1 := by
  simp [allOf, List.getD_eq_getElem?_getD, hk]
set_option maxRecDepth 100000 in
set_option maxHeartbeats 3200000 in
theorem dDeal_ok (b : Nat) (p : Pl) (h : p.Ok) (v tv : Value) (blob tape : List F) (w : World) (hF : IsField w b) (hv : Rb w v blob) (ht : Rb w tv tape) (hl : blob.length ≤ 240) (hlen : p.T * (F.nS p.L.toNat blob.length : Int) ≤ (tape.length : Int)) :
   Calls Try.prog 126 #[fp b, planV p, v, tv] w fun e w' => ∃ g vs, e = .returned (.tuple #[.slice (some ⟨g, 0, none⟩) p.N.toNat p.N.toNat, .int .i64 0]) ∧ Rws w w' g p.N.toNat vs (shs p blob tape) ∧ Below w.heap.size w w' := by
  have hal : Hid ((allOf p).length ≤ 1000) := Lib.hid (by rw [all_len]; have := h.nl; have := h.l; omega)
  have hcg : Hid (∀ k, k < p.N.toNat → F.dshare (polysOf p blob tape) (point ((allOf p).getD k 0)) = shs p blob tape k) := Lib.hid (fun k hk => by rw [all_getD p k hk]; rfl)
  obtain ⟨Av, cv, rfl⟩ := rk_form hv
  obtain ⟨At, ct, rfl⟩ := rk_form ht
  have HP := Blk.new w (planC p) 33
  have hB0 := below_alloc (Below.refl w.heap.size w) (.cells (planC p) 33)
  replace hv := hv.below hB0
  replace ht := ht.below hB0
  replace hF := hF.below hB0
  go_enter Try.func126, Try.ntmps126
  go_wp2_with fail
  refine wp_region_tell [.v (fp b), .v (planV p), .v (.slice Av blob.length cv), .v (.slice At tape.length ct), .v (planV p), .p (isI (allOf p)), .p (isTRw w p.N.toNat (shs p blob tape)), .p (isRw w p.N.toNat (shs p blob tape)), .v (.int .i64 0), .p (isRw w p.N.toNat (shs p blob tape)), .v (.int .i64 0)] [([], none), ([], none), ([], none), ([], none), ([], none), ([(4, some 14)], none), ([(0, some 10), (1, some 11), (2, some 12), (3, some 13), (5, some 15)], none), ([(6, some 16)], none), ([(6, some 16)], none), ([(7, some 17)], none), ([(8, some 18)], none)] [(0, some 10), (1, some 11), (2, some 12), (3, some 13), (4, some 14), (5, some 15), (6, some 16), (7, some 17), (8, some 18), (9, some 8), (10, some 9)] (by kernel_rfl) (by kernel_rfl) (by kernel_rfl) (by kernel_rfl) (by exact ⟨trivial, trivial, trivial, trivial, trivial, last_I _, last_TRw _ _ _, last_Rw _ _ _, trivial, last_Rw _ _ _, trivial, trivial⟩) ⟨?s0, ?s1, ?s2, ?s3, ?s4, ?s5, ?s6, ?s7, ?s8, ?s9, ?s10, trivial⟩ ?hQ
  case s0 =>
    intro W hB K hK
    simp only [tellK, Act.put, List.setIfInBounds_toArray, List.set_cons_zero, List.set_cons_succ] at hK ⊢
    refine tell_do rfl ?_
    obtain ⟨c0, c1, c2, c3, c4, c5⟩ := cells6 (HP.below hB)
    go_simp
    exact hK _ (Below.refl _ _)
  case s1 =>
    intro W hB K hK
    simp only [tellK, Act.put, List.setIfInBounds_toArray, List.set_cons_zero, List.set_cons_succ] at hK ⊢
    refine tell_do rfl ?_
    obtain ⟨c0, c1, c2, c3, c4, c5⟩ := cells6 (HP.below hB)
    go_simp
    exact hK _ (Below.refl _ _)
  case s2 =>
    intro W hB K hK
    simp only [tellK, Act.put, List.setIfInBounds_toArray, List.set_cons_zero, List.set_cons_succ] at hK ⊢
    refine tell_do rfl ?_
    obtain ⟨c0, c1, c2, c3, c4, c5⟩ := cells6 (HP.below hB)
    go_simp
    exact hK _ (Below.refl _ _)
  case s3 =>
    intro W hB K hK
    simp only [tellK, Act.put, List.setIfInBounds_toArray, List.set_cons_zero, List.set_cons_succ] at hK ⊢
    refine tell_do rfl ?_
    obtain ⟨c0, c1, c2, c3, c4, c5⟩ := cells6 (HP.below hB)
    go_simp
    exact hK _ (Below.refl _ _)
  case s4 =>
    intro W hB K hK
    simp only [tellK, Act.put, List.setIfInBounds_toArray, List.set_cons_zero, List.set_cons_succ] at hK ⊢
    refine tell_do rfl ?_
    obtain ⟨c0, c1, c2, c3, c4, c5⟩ := cells6 (HP.below hB)
    go_simp
    exact hK _ (Below.refl _ _)
  case s5 =>
    intro W hB K hK
    simp only [tellK, Act.put, List.setIfInBounds_toArray, List.set_cons_zero, List.set_cons_succ] at hK ⊢
    refine tell_do rfl ?_
    obtain ⟨c0, c1, c2, c3, c4, c5⟩ := cells6 (HP.below hB)
    go_simp
    go_at_call 50; refine (all_yes p h _).mono ?_; rintro e w6 ⟨z, rfl, oA, h6⟩; exact hK _ _ oA.rk h6
  case s6 =>
    intro W hB v5 h5 K hK
    replace h5 : Ri W v5 (allOf p) := h5
    simp only [tellK, Act.put, List.setIfInBounds_toArray, List.set_cons_zero, List.set_cons_succ] at hK ⊢
    refine tell_do rfl ?_
    obtain ⟨c0, c1, c2, c3, c4, c5⟩ := cells6 (HP.below hB)
    go_simp
    go_at_call 188; refine (dSome_ok b p h _ _ _ blob tape (allOf p) _ (hF.below hB) (hv.below hB) (ht.below hB) h5 hl hal.out hlen).mono ?_; rintro e w6 ⟨g, vs, rfl, hR, h6⟩; rw [all_len] at hR ⊢; exact hK _ _ ⟨g, vs, rfl, (hR.lower (bt_ hB0 hB)).congr hcg.out⟩ h6
  case s7 =>
    intro W hB v6 h6 K hK
    simp only [tellK, Act.put, List.setIfInBounds_toArray, List.set_cons_zero, List.set_cons_succ] at hK ⊢
    refine tell_do rfl ?_
    obtain ⟨c0, c1, c2, c3, c4, c5⟩ := cells6 (HP.below hB)
    obtain ⟨g, vs, rfl, hR⟩ := h6; go_simp; exact hK _ _ ⟨g, vs, rfl, hR⟩ (Below.refl _ _)
  case s8 =>
    intro W hB v6 h6 K hK
    simp only [tellK, Act.put, List.setIfInBounds_toArray, List.set_cons_zero, List.set_cons_succ] at hK ⊢
    refine tell_do rfl ?_
    obtain ⟨c0, c1, c2, c3, c4, c5⟩ := cells6 (HP.below hB)
    obtain ⟨g, vs, rfl, hR⟩ := h6; go_simp; exact hK _ (Below.refl _ _)
  case s9 =>
    intro W hB v7 h7 K hK
    simp only [tellK, Act.put, List.setIfInBounds_toArray, List.set_cons_zero, List.set_cons_succ] at hK ⊢
    refine tell_do rfl ?_
    obtain ⟨c0, c1, c2, c3, c4, c5⟩ := cells6 (HP.below hB)
    obtain ⟨g, vs, rfl, hR⟩ := h7; go_simp; exact hK _ _ ⟨g, vs, rfl, hR⟩ (Below.refl _ _)
  case s10 =>
    intro W hB K hK
    simp only [tellK, Act.put, List.setIfInBounds_toArray, List.set_cons_zero, List.set_cons_succ] at hK ⊢
    refine tell_do rfl ?_
    obtain ⟨c0, c1, c2, c3, c4, c5⟩ := cells6 (HP.below hB)
    go_simp
    exact hK _ (Below.refl _ _)
  case hQ =>
    intro W hB v5 h5 v6 h6 v7 h7 v9 h9
    replace h5 : Ri W v5 (allOf p) := h5
    simp only [tellGo, sayAt, List.getD_cons_zero, List.getD_cons_succ, Act.put, List.setIfInBounds_toArray, List.set_cons_zero, List.set_cons_succ]
    obtain ⟨g, vs, rfl, hR⟩ := h9
    go_wp2
    go_ret2
    exact ⟨g, vs, rfl, hR, bt_ hB0 hB⟩
set_option maxRecDepth 100000 in
set_option maxHeartbeats 3200000 in
theorem dDeal_err (fv : Value) (p : Pl) (c : Int) (v tv : Value) (blob tape : List F) (w : World) (hv : Rb w v blob) (ht : Rb w tv tape) (hc : dealBad p blob tape c) :
   Calls Try.prog 126 #[fv, planV p, v, tv] w fun e w' => e = .returned (.tuple #[.slice none 0 0, .int .i64 c]) ∧ Below w.heap.size w w' := by
  obtain ⟨l, hAll⟩ : ∃ l : List Int, ∀ W : World, Calls Try.prog 50 #[planV p] W fun e W' => ∃ v, e = .returned v ∧ Ri W' v l ∧ Below W.heap.size W W' := by
    by_cases h : p.Ok
    · exact ⟨allOf p, fun W => (all_yes p h W).mono fun e W' ⟨v, h1, h2, h3⟩ => ⟨v, h1, h2.rk, h3⟩⟩
    · exact ⟨[], fun W => (all_no p h W).mono fun e W' ⟨h1, h3⟩ => ⟨_, h1, Rk.nil _ _, h3⟩⟩
  replace hAll := Lib.hid hAll
  replace hc := Lib.hid hc
  obtain ⟨Av, cv, rfl⟩ := rk_form hv
  obtain ⟨At, ct, rfl⟩ := rk_form ht
  have HP := Blk.new w (planC p) 33
  have hB0 := below_alloc (Below.refl w.heap.size w) (.cells (planC p) 33)
  replace hv := hv.below hB0
  replace ht := ht.below hB0
  go_enter Try.func126, Try.ntmps126
  go_wp2_with fail
  refine wp_region_tell [.v (fv), .v (planV p), .v (.slice Av blob.length cv), .v (.slice At tape.length ct), .v (planV p), .p (isI l), .v (.tuple #[.slice none 0 0, .int .i64 c]), .v (.slice none 0 0), .v (.int .i64 c), .v (.slice none 0 0), .v (.int .i64 c)] [([], none), ([], none), ([], none), ([], none), ([], none), ([(4, some 14)], none), ([(0, some 10), (1, some 11), (2, some 12), (3, some 13), (5, some 15)], none), ([(6, some 16)], none), ([(6, some 16)], none), ([(7, some 17)], none), ([(8, some 18)], none)] [(0, some 10), (1, some 11), (2, some 12), (3, some 13), (4, some 14), (5, some 15), (6, some 16), (7, some 17), (8, some 18), (9, some 8), (10, some 9)] (by kernel_rfl) (by kernel_rfl) (by kernel_rfl) (by kernel_rfl) (by exact ⟨trivial, trivial, trivial, trivial, trivial, last_I _, trivial, trivial, trivial, trivial, trivial, trivial⟩) ⟨?s0, ?s1, ?s2, ?s3, ?s4, ?s5, ?s6, ?s7, ?s8, ?s9, ?s10, trivial⟩ ?hQ
  case s0 =>
    intro W hB K hK
    simp only [tellK, Act.put, List.setIfInBounds_toArray, List.set_cons_zero, List.set_cons_succ] at hK ⊢
    refine tell_do rfl ?_
    obtain ⟨c0, c1, c2, c3, c4, c5⟩ := cells6 (HP.below hB)
    go_simp
    exact hK _ (Below.refl _ _)
  case s1 =>
    intro W hB K hK
    simp only [tellK, Act.put, List.setIfInBounds_toArray, List.set_cons_zero, List.set_cons_succ] at hK ⊢
    refine tell_do rfl ?_
    obtain ⟨c0, c1, c2, c3, c4, c5⟩ := cells6 (HP.below hB)
    go_simp
    exact hK _ (Below.refl _ _)
  case s2 =>
    intro W hB K hK
    simp only [tellK, Act.put, List.setIfInBounds_toArray, List.set_cons_zero, List.set_cons_succ] at hK ⊢
    refine tell_do rfl ?_
    obtain ⟨c0, c1, c2, c3, c4, c5⟩ := cells6 (HP.below hB)
    go_simp
    exact hK _ (Below.refl _ _)
  case s3 =>
    intro W hB K hK
    simp only [tellK, Act.put, List.setIfInBounds_toArray, List.set_cons_zero, List.set_cons_succ] at hK ⊢
    refine tell_do rfl ?_
    obtain ⟨c0, c1, c2, c3, c4, c5⟩ := cells6 (HP.below hB)
    go_simp
    exact hK _ (Below.refl _ _)
  case s4 =>
    intro W hB K hK
    simp only [tellK, Act.put, List.setIfInBounds_toArray, List.set_cons_zero, List.set_cons_succ] at hK ⊢
    refine tell_do rfl ?_
    obtain ⟨c0, c1, c2, c3, c4, c5⟩ := cells6 (HP.below hB)
    go_simp
    exact hK _ (Below.refl _ _)
  case s5 =>
    intro W hB K hK
    simp only [tellK, Act.put, List.setIfInBounds_toArray, List.set_cons_zero, List.set_cons_succ] at hK ⊢
    refine tell_do rfl ?_
    obtain ⟨c0, c1, c2, c3, c4, c5⟩ := cells6 (HP.below hB)
    go_simp
    go_at_call 50; refine (hAll.out _).mono ?_; rintro e w6 ⟨z, rfl, oA, h6⟩; exact hK _ _ oA h6
  case s6 =>
    intro W hB v5 h5 K hK
    replace h5 : Ri W v5 l := h5
    simp only [tellK, Act.put, List.setIfInBounds_toArray, List.set_cons_zero, List.set_cons_succ] at hK ⊢
    refine tell_do rfl ?_
    obtain ⟨c0, c1, c2, c3, c4, c5⟩ := cells6 (HP.below hB)
    go_simp
    go_at_call 188; refine (dSome_err fv p c _ _ _ blob tape l _ (hv.below hB) (ht.below hB) h5 hc.out).mono ?_; rintro e w6 ⟨rfl, h6⟩; exact hK _ h6
  case s7 =>
    intro W hB K hK
    simp only [tellK, Act.put, List.setIfInBounds_toArray, List.set_cons_zero, List.set_cons_succ] at hK ⊢
    refine tell_do rfl ?_
    obtain ⟨c0, c1, c2, c3, c4, c5⟩ := cells6 (HP.below hB)
    go_simp
    exact hK _ (Below.refl _ _)
  case s8 =>
    intro W hB K hK
    simp only [tellK, Act.put, List.setIfInBounds_toArray, List.set_cons_zero, List.set_cons_succ] at hK ⊢
    refine tell_do rfl ?_
    obtain ⟨c0, c1, c2, c3, c4, c5⟩ := cells6 (HP.below hB)
    go_simp
    exact hK _ (Below.refl _ _)
  case s9 =>
    intro W hB K hK
    simp only [tellK, Act.put, List.setIfInBounds_toArray, List.set_cons_zero, List.set_cons_succ] at hK ⊢
    refine tell_do rfl ?_
    obtain ⟨c0, c1, c2, c3, c4, c5⟩ := cells6 (HP.below hB)
    go_simp
    exact hK _ (Below.refl _ _)
  case s10 =>
    intro W hB K hK
    simp only [tellK, Act.put, List.setIfInBounds_toArray, List.set_cons_zero, List.set_cons_succ] at hK ⊢
    refine tell_do rfl ?_
    obtain ⟨c0, c1, c2, c3, c4, c5⟩ := cells6 (HP.below hB)
    go_simp
    exact hK _ (Below.refl _ _)
  case hQ =>
    intro W hB v5 h5
    replace h5 : Ri W v5 l := h5
    simp only [tellGo, sayAt, List.getD_cons_zero, List.getD_cons_succ, Act.put, List.setIfInBounds_toArray, List.set_cons_zero, List.set_cons_succ]
    go_wp2
    go_ret2
    exact ⟨rfl, bt_ hB0 hB⟩
set_option maxRecDepth 100000 in
set_option maxHeartbeats 3200000 in
theorem dShare_out (fv : Value) (p : Pl) (h : p.Ok) (v tv : Value) (i : Int) (hi : ¬ (1 ≤ i ∧ i ≤ p.N)) (w : World) :
   Calls Try.prog 131 #[fv, planV p, v, tv, .int .i64 i] w fun e w' => e = .returned (.tuple #[.slice none 0 0, .int .i64 2]) ∧ Below w.heap.size w w' := by
  have hd := Lib.hid (decide_eq_false hi)
  have HP := Blk.new w (planC p) 33
  have hB0 := below_alloc (Below.refl w.heap.size w) (.cells (planC p) 33)
  obtain ⟨c0, c1, c2, c3, c4, c5⟩ := cells6 HP
  clear hi
  go_enter Try.func131, Try.ntmps131
  go_wp2_with fail
  refine (right_yes p h _).mono ?_
  rintro e w1 ⟨rfl, h1⟩
  obtain ⟨c0, c1, c2, c3, c4, c5⟩ := cells6 (HP.below h1)
  go_wp2_with fail
  refine (is_yes p h i _).mono ?_
  rintro e w2 ⟨rfl, h2⟩
  rw [hd.out]
  go_wp2
  go_ret2
  exact ⟨rfl, bt_ (bt_ hB0 h1) h2⟩
set_option maxRecDepth 100000 in
set_option maxHeartbeats 3200000 in
theorem dShare_err (fv : Value) (p : Pl) (c : Int) (v tv : Value) (blob tape : List F) (i : Int) (hi : p.Ok → 1 ≤ i ∧ i ≤ p.N) (w : World) (hv : Rb w v blob) (ht : Rb w tv tape) (hc : dealBad p blob tape c) :
   Calls Try.prog 131 #[fv, planV p, v, tv, .int .i64 i] w fun e w' => e = .returned (.tuple #[.slice none 0 0, .int .i64 c]) ∧ Below w.heap.size w w' := by
  have tc : (c != 0) = true := by
    rcases hc with ⟨_, rfl⟩ | ⟨_, _, rfl⟩ | ⟨_, _, _, rfl⟩ <;> rfl
  replace hc := Lib.hid hc
  obtain ⟨Av, cv, rfl⟩ := rk_form hv
  obtain ⟨At, ct, rfl⟩ := rk_form ht
  have HP := Blk.new w (planC p) 33
  have hB0 := below_alloc (Below.refl w.heap.size w) (.cells (planC p) 33)
  replace hv := hv.below hB0
  replace ht := ht.below hB0
  obtain ⟨c0, c1, c2, c3, c4, c5⟩ := cells6 HP
  by_cases h : p.Ok
  · have hd := Lib.hid (decide_eq_true (hi h))
    clear hi
    go_enter Try.func131, Try.ntmps131
    go_wp2_with fail
    refine (right_yes p h _).mono ?_
    rintro e w1 ⟨rfl, h1⟩
    obtain ⟨c0, c1, c2, c3, c4, c5⟩ := cells6 (HP.below h1)
    go_wp2_with fail
    refine (is_yes p h i _).mono ?_
    rintro e w2 ⟨rfl, h2⟩
    rw [hd.out]
    have hB := bt_ h1 h2
    obtain ⟨c0, c1, c2, c3, c4, c5⟩ := cells6 (HP.below hB)
    replace hB0 := bt_ hB0 hB
    replace hv := hv.below hB
    replace ht := ht.below hB
    clear hB h1 h2
    have hB := Below.refl w2.heap.size w2
    go_wp2_with fail
    refine (dSome_err fv p c _ _ _ blob tape [i] _ (hv.alloc _) (ht.alloc _) (lit_i _ [i] #[.int .i64 i] 3 1 1 rfl rfl (by decide) (by decide)) hc.out).mono ?_
    rintro e w3 ⟨rfl, h3⟩
    go_wp2
    go_ret2
    exact ⟨rfl, bt_ hB0 (ba h3)⟩
  · clear hi
    go_enter Try.func131, Try.ntmps131
    go_wp2_with fail
    refine (right_no p h _).mono ?_
    rintro e w1 ⟨rfl, h1⟩
    obtain ⟨c0, c1, c2, c3, c4, c5⟩ := cells6 (HP.below h1)
    replace hB0 := bt_ hB0 h1
    replace hv := hv.below h1
    replace ht := ht.below h1
    go_wp2_with fail
    refine (dSome_err fv p c _ _ _ blob tape [i] _ (hv.alloc _) (ht.alloc _) (lit_i _ [i] #[.int .i64 i] 3 1 1 rfl rfl (by decide) (by decide)) hc.out).mono ?_
    rintro e w3 ⟨rfl, h3⟩
    go_wp2
    go_ret2
    exact ⟨rfl, bt_ hB0 (ba h3)⟩
set_option maxRecDepth 100000 in
set_option maxHeartbeats 3200000 in
theorem dShare_ok (b : Nat) (p : Pl) (h : p.Ok) (v tv : Value) (blob tape : List F) (i : Int) (hi : 1 ≤ i ∧ i ≤ p.N) (w : World) (hF : IsField w b) (hv : Rb w v blob) (ht : Rb w tv tape) (hl : blob.length ≤ 240) (hlen : p.T * (F.nS p.L.toNat blob.length : Int) ≤ (tape.length : Int)) :
   Calls Try.prog 131 #[fp b, planV p, v, tv, .int .i64 i] w fun e w' => ∃ z, e = .returned (.tuple #[z, .int .i64 0]) ∧ Ob w w' z (F.dshare (polysOf p blob tape) (point i)) ∧ Below w.heap.size w w' := by
  have hd := Lib.hid (decide_eq_true hi)
  obtain ⟨Av, cv, rfl⟩ := rk_form hv
  obtain ⟨At, ct, rfl⟩ := rk_form ht
  have HP := Blk.new w (planC p) 33
  have hB0 := below_alloc (Below.refl w.heap.size w) (.cells (planC p) 33)
  replace hv := hv.below hB0
  replace ht := ht.below hB0
  replace hF := hF.below hB0
  obtain ⟨c0, c1, c2, c3, c4, c5⟩ := cells6 HP
  clear hi
  go_enter Try.func131, Try.ntmps131
  go_wp2_with fail
  refine (right_yes p h _).mono ?_
  rintro e w1 ⟨rfl, h1⟩
  obtain ⟨c0, c1, c2, c3, c4, c5⟩ := cells6 (HP.below h1)
  go_wp2_with fail
  refine (is_yes p h i _).mono ?_
  rintro e w2 ⟨rfl, h2⟩
  rw [hd.out]
  have hB := bt_ h1 h2
  obtain ⟨c0, c1, c2, c3, c4, c5⟩ := cells6 (HP.below hB)
  replace hB0 := bt_ hB0 hB
  replace hv := hv.below hB
  replace ht := ht.below hB
  replace hF := hF.below hB
  clear hB h1 h2
  go_wp2_with fail
  refine (dSome_ok b p h _ _ _ blob tape [i] _ (hF.alloc _) (hv.alloc _) (ht.alloc _) (lit_i _ [i] #[.int .i64 i] 3 1 1 rfl rfl (by decide) (by decide)) hl (show 1 ≤ 1000 by decide) hlen).mono ?_
  rintro e w3 ⟨g, vs, rfl, hR, h3⟩
  have hc0 := hR.cell 0 Nat.one_pos
  have hO := (hR.own 0 Nat.one_pos).lower (bt_ hB0 (alloc_b _ _))
  replace hO : Ob w w3 (vs 0) (F.dshare (polysOf p blob tape) (point i)) := hO
  rw [show ([i] : List Int).length = 1 from rfl]
  go_wp2
  go_ret2
  exact ⟨_, rfl, hO, bt_ hB0 (ba h3)⟩
end Go.Proofs.Ytijeabhfddaoaaa
