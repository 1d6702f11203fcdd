/- The walks of package deal: what a blob costs; a stripe's polynomial at a custodian. -/
import Derived.Test.YtijeabhfddaoaaaRws
import Derived.Test.YtijeabhfddaoaaaR10
import Derived.Test.YtijeabhfddaoaaaLa
import Derived.Test.YtijeabhfddaoaaaCut
import Derived.Test.YtijeabhfddaoaaaM12
import Derived.Test.YtijeabhfddaoaaaK9
namespace Go.Proofs.Ytijeabhfddaoaaa
set_option linter.unusedVariables false
open Go.RowKit Go.Proofs.YtijeabhfddaoaaaW.PrintWords Go.Proofs.Sh

set_option maxRecDepth 100000 in
set_option maxHeartbeats 1600000 in
theorem dCost_of (p : Pl) (n s : Int) (hS : ∀ W : World, Calls Try.prog 65 #[planV p, .int .i64 n] W fun e W' => e = .returned (.int .i64 s) ∧ Below W.heap.size W W') (u1 : IntKind.i64.wrap (p.T * s) = p.T * s) (w : World) :
   Calls Try.prog 132 #[planV p, .int .i64 n] w fun e w' => e = .returned (.int .i64 (p.T * s)) ∧ Below w.heap.size w w' := by
  have HP := Blk.new w (planC p) 33
  have hB0 := below_alloc (Below.refl w.heap.size w) (.cells (planC p) 33)
  go_enter Try.func132, Try.ntmps132
  go_wp2_with fail
  refine wp_region_tell [.v (.pointer (some ⟨w.heap.size, 1, none⟩)), .v (.int .i64 p.T), .v (planV p), .v (.int .i64 n), .v (.int .i64 s), .v (.int .i64 (p.T * s)), .v (.int .i64 (p.T * s))] [([], none), ([(0, some 5)], none), ([], none), ([], none), ([(2, some 7), (3, some 8)], none), ([(1, some 6), (4, some 9)], none), ([(5, some 10)], none)] [(0, some 5), (1, some 6), (2, some 7), (3, some 8), (4, some 9), (5, some 10), (6, some 4)] (by kernel_rfl) (by kernel_rfl) (by kernel_rfl) (by kernel_rfl) (by exact ⟨trivial, trivial, trivial, trivial, trivial, trivial, trivial, trivial⟩) ⟨?s0, ?s1, ?s2, ?s3, ?s4, ?s5, ?s6, trivial⟩ ?hQ
  case s0 =>
    intro W hB K hK
    simp only [tellK, Act.put, List.setIfInBounds_toArray, List.set_cons_zero, List.set_cons_succ] at hK ⊢
    refine tell_do rfl ?_
    obtain ⟨c0, c1, c2, c3, c4, c5⟩ := cells6 (HP.below hB)
    go_simp
    exact hK _ (Below.refl _ _)
  case s1 =>
    intro W hB K hK
    simp only [tellK, Act.put, List.setIfInBounds_toArray, List.set_cons_zero, List.set_cons_succ] at hK ⊢
    refine tell_do rfl ?_
    obtain ⟨c0, c1, c2, c3, c4, c5⟩ := cells6 (HP.below hB)
    go_simp
    exact hK _ (Below.refl _ _)
  case s2 =>
    intro W hB K hK
    simp only [tellK, Act.put, List.setIfInBounds_toArray, List.set_cons_zero, List.set_cons_succ] at hK ⊢
    refine tell_do rfl ?_
    obtain ⟨c0, c1, c2, c3, c4, c5⟩ := cells6 (HP.below hB)
    go_simp
    exact hK _ (Below.refl _ _)
  case s3 =>
    intro W hB K hK
    simp only [tellK, Act.put, List.setIfInBounds_toArray, List.set_cons_zero, List.set_cons_succ] at hK ⊢
    refine tell_do rfl ?_
    obtain ⟨c0, c1, c2, c3, c4, c5⟩ := cells6 (HP.below hB)
    go_simp
    exact hK _ (Below.refl _ _)
  case s4 =>
    intro W hB K hK
    simp only [tellK, Act.put, List.setIfInBounds_toArray, List.set_cons_zero, List.set_cons_succ] at hK ⊢
    refine tell_do rfl ?_
    obtain ⟨c0, c1, c2, c3, c4, c5⟩ := cells6 (HP.below hB)
    go_simp
    go_at_call 65; refine (hS _).mono ?_; rintro e w6 ⟨rfl, h6⟩; exact hK _ h6
  case s5 =>
    intro W hB K hK
    simp only [tellK, Act.put, List.setIfInBounds_toArray, List.set_cons_zero, List.set_cons_succ] at hK ⊢
    refine tell_do rfl ?_
    obtain ⟨c0, c1, c2, c3, c4, c5⟩ := cells6 (HP.below hB)
    go_simp
    exact hK _ (Below.refl _ _)
  case s6 =>
    intro W hB K hK
    simp only [tellK, Act.put, List.setIfInBounds_toArray, List.set_cons_zero, List.set_cons_succ] at hK ⊢
    refine tell_do rfl ?_
    obtain ⟨c0, c1, c2, c3, c4, c5⟩ := cells6 (HP.below hB)
    go_simp
    exact hK _ (Below.refl _ _)
  case hQ =>
    intro W hB
    simp only [tellGo, sayAt, List.getD_cons_zero, List.getD_cons_succ, Act.put, List.setIfInBounds_toArray, List.set_cons_zero, List.set_cons_succ]
    go_wp2
    go_ret
    exact ⟨rfl, bt_ hB0 hB⟩
theorem dCost_ok (p : Pl) (h : p.Ok) (n : Nat) (hn : n ≤ 240) (w : World) :
   Calls Try.prog 132 #[planV p, .int .i64 (n : Int)] w fun e w' => e = .returned (.int .i64 (p.T * (F.nS p.L.toNat n : Int))) ∧ Below w.heap.size w w' := by
  have hT : 1 ≤ p.T ∧ p.T ≤ 256 := by have := h.t; have := h.tl; have := h.wn; have := h.nl; have := h.l; omega
  have hs : F.nS p.L.toNat n ≤ 240 := Nat.le_trans (F.nS_le_len _ n (by have := h.l; omega)) hn
  refine dCost_of p n _ (fun W => ?_) ?_ w
  · rw [← stripes_nat h n hn]
    exact stripes_yes p h n W
  · have h1 : p.T * (F.nS p.L.toNat n : Int) ≤ 256 * 240 := Int.mul_le_mul hT.2 (by omega) (by omega) (by omega)
    have h2 : 0 ≤ p.T * (F.nS p.L.toNat n : Int) := Int.mul_nonneg (by omega) (by omega)
    exact wrapI _ (by omega) (by omega)
theorem dCost_no (p : Pl) (h : ¬ p.Ok) (n : Int) (w : World) :
   Calls Try.prog 132 #[planV p, .int .i64 n] w fun e w' => e = .returned (.int .i64 0) ∧ Below w.heap.size w w' := by
  have := dCost_of p n 0 (fun W => stripes_no p h n W) (by rw [Int.mul_zero]; rfl) w
  rw [Int.mul_zero] at this
  exact this
/-- A dealer: the field, the polynomial that is 0 at the stripe's points, what each byte counts at each custodian's. -/
structure Dlr (w : World) (g fb : Nat) (sec pts : List F) : Prop where
  f : w.cell? ⟨g, 0, none⟩ = some (fp fb)
  fld : IsField w fb
  r : ∃ rv, w.cell? ⟨g, 7, none⟩ = some rv ∧ Rb w rv (F.rt sec)
  ws : ∃ wv, w.cell? ⟨g, 8, none⟩ = some wv ∧ Rbb w wv (pts.map (F.wts sec))
theorem Dlr.below {w w1 : World} {g fb : Nat} {sec pts : List F} (h : Dlr w g fb sec pts) (hb : Below w.heap.size w w1) : Dlr w1 g fb sec pts := by
  obtain ⟨c1, hF, ⟨rv, c2, hr⟩, wv, c3, hw⟩ := h
  exact ⟨pw_cell_below hb c1, hF.below hb, ⟨rv, pw_cell_below hb c2, hr.below hb⟩, wv, pw_cell_below hb c3, hw.below hb⟩
set_option maxRecDepth 100000 in
set_option maxHeartbeats 1600000 in
theorem dValue_c (g fb : Nat) (sec pts : List F) (v u : Value) (row t : List F) (k : Nat) (hk : k < pts.length) (x : F) (w : World) (hD : Dlr w g fb sec pts) (hv : Rb w v row) (hu : Rb w u t) :
   Calls Try.prog 208 #[.pointer (some ⟨g, 0, none⟩), v, u, .int .i64 (k : Int), .int .u8 (x.n : Int)] w fun e w' => e = .returned (.int .u8 ((dot (F.wts sec (pts.getD k 0)) row + F.ev x (F.rt sec) * F.ev x t).n : Int)) ∧ Drawn0 w w' := by
  have hD0 := Lib.hid hD
  obtain ⟨cf, hF, ⟨rv, cr, hr⟩, wv, cw, hw⟩ := hD
  obtain ⟨Ar, nr, rfl⟩ := rk_form hr
  obtain ⟨Av, nv, rfl⟩ := rk_form hv
  obtain ⟨Au, nu, rfl⟩ := rk_form hu
  go_enter Try.func208, Try.ntmps208
  go_wp2_with fail
  go_quiet ((first | (go_at_call 74; first | exact qd (pEval_c fb _ (F.rt sec) x _ (hF.drewN _) (hr.drewN _)) | exact qd (pEval_c fb _ t x _ (hF.drewN _) (hu.drewN _))) | (go_at_call 40; exact qd (mul_c fb (F.ev x (F.rt sec)) (F.ev x t) _ (hF.drewN _) _ _ rfl rfl)) | fail))
  clear cf hF cr hr cw hw
  obtain ⟨cf, hF, ⟨rv2, cr, hr⟩, wv2, cw, hw⟩ := hD0.out.below (pw_below_drewN (Below.refl _ _) nq)
  have hv := hv.drewN nq
  obtain ⟨Aw, nw, rfl⟩ := rk_form hw
  obtain ⟨ad, u5, rfl, d0, hu5⟩ := kbb_at (rk_C hw) k (by rw [List.length_map]; exact hk)
  rw [map_getD pts (F.wts sec) 0 [] k hk] at hu5
  rw [List.length_map] at *
  have hi : (k : Int) < (pts.length : Int) := by omega
  generalize hwk : F.wts sec (pts.getD k 0) = wk at *
  generalize hy : F.ev x (F.rt sec) * F.ev x t = y at *
  replace hwk := Lib.hid hwk
  replace hy := Lib.hid hy
  obtain ⟨A5, n5, rfl⟩ := rk_form hu5
  have hb0 : Drawn0 w (w.drewN nq) := ⟨⟨nq, rfl⟩⟩
  generalize w.drewN nq = w1 at *
  go_wp2_with fail
  go_quiet ((first | (go_at_call 52; exact qd (fDot_c fb _ _ wk row _ (hF.drewN _) (hu5.drewN _) (hv.drewN _))) | (go_at_call 39; exact qs (add_c (dot wk row) y _ _ _ rfl rfl)) | fail))
  go_wp2
  go_ret
  exact ⟨by rw [hwk.out, hy.out]; rfl, hb0.step _⟩
end Go.Proofs.Ytijeabhfddaoaaa
