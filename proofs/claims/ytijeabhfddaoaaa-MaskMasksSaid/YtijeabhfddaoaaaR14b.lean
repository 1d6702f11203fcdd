/- The walks of the reference of layer 14: Shift. -/
import Derived.Test.YtijeabhfddaoaaaR14
namespace Go.Proofs.Ytijeabhfddaoaaa
set_option linter.unusedVariables false
open Go.RowKit Go.Proofs.YtijeabhfddaoaaaW.PrintWords Go.Proofs.Sh

set_option maxRecDepth 100000 in
set_option maxHeartbeats 3200000 in
theorem rShift14_c (p : Pl) (h : p.Ok) (hK : p.T + p.L < 255) (v u : Value) (d : List F) (zs : List Int) (w : World) (hv : Rb w v d) (hu : Ri w u zs) (ha : maE p d.length zs = 0) :
   Calls Try.prog 139 #[planV p, v, u] w fun e w' => ∃ z, e = .returned z ∧ Ob w w' z (shOf p d zs) ∧ Below w.heap.size w w' := by
  have hz := Lib.hid (ma_zero ha)
  have hl1 : zs.length ≤ 1000 := by have := hz.out.2.1; have := h.l; omega
  have hxl := Lib.hid (shXs_len p h zs hz.out.2.1)
  have hnd := Lib.hid (shXs_nodup p h zs hz.out.2.2.1 hz.out.2.2.2)
  have hfl := Lib.hid (fil_full p h zs hz.out.2.1)
  have hx : Hid (secretsAt p ++ (fil p.T zs (allOf p)).map point = shXs p zs) := Lib.hid rfl
  have hx2 : (shXs p zs).length ≤ 1000 := by have := hxl.out; omega
  have hfl2 : Hid ((fil p.T zs (allOf p)).length < 1000000) := Lib.hid (by have := hfl.out; have := h.l; omega)
  have hl8 : Hid ((secretsAt p).length + ((fil p.T zs (allOf p)).map point).length ≤ 1000000000) := Lib.hid (by rw [← List.length_append, hx.out]; omega)
  have hL1 : Hid ((shXs p zs).length = (szd d (shXs p zs).length).length) := Lib.hid (szd_len _ _).symm
  have hL2 : Hid (d.length ≤ (shXs p zs).length) := Lib.hid (by have := hxl.out; have := h.t; have := hz.out.1; omega)
  have hfin : Hid (F.nwt (shXs p zs) (szd d (shXs p zs).length) (shXs p zs).length = shOf p d zs) := Lib.hid (F.nwt_thr hnd.out (by have := hxl.out; omega))
  clear hxl hfl ha
  have HP := Blk.new w (planC p) 33
  have hB := below_alloc (Below.refl w.heap.size w) (.cells (planC p) 33)
  have hv := hv.below hB
  obtain ⟨Ad, cd, rfl, hcd, hrd⟩ := hv
  have hu := hu.below hB
  go_enter Try.func139, Try.ntmps139
  go_wp2_with fail
  generalize w.alloc (.cells (planC p) 33) = wB at *
  have hPx := Lib.hid HP
  have hBx := Lib.hid hB
  have hB := Below.refl wB.heap.size wB
  obtain ⟨c0, c1, c2, c3, c4, c5⟩ := cells6 HP
  go_region_held3 (fun w' => w'.cell? ⟨w.heap.size, 0, none⟩ = some (.int .i64 p.N) ∧ w'.cell? ⟨w.heap.size, 1, none⟩ = some (.int .i64 p.T) ∧ w'.cell? ⟨w.heap.size, 2, none⟩ = some (.int .i64 p.L) ∧ w'.cell? ⟨w.heap.size, 3, none⟩ = some (.int .i64 p.W) ∧ w'.cell? ⟨w.heap.size, 4, none⟩ = some (.int .i64 p.S) ∧ w'.cell? ⟨w.heap.size, 5, none⟩ = some (.int .i64 p.R))
    (go_keep)
    (first
    | (go_at_call 66; refine (rSecrets_c p h _).mono ?_; rintro e w6 ⟨vS, rfl, sS, h6⟩; replace sS := sS.lower (by first | exact hB | exact below_drew hB); (try replace h6 := bu h6); have hu := hu.below h6; (try replace h6 := bu h6); have HP := HP.below h6; obtain ⟨c0, c1, c2, c3, c4, c5⟩ := cells6 HP; have hB := bt_ hB h6)
    | (go_at_call 193; refine (rZeros14_c p h _ zs _ hu hl1).mono ?_; rintro e w6 ⟨vZ, rfl, sZ, h6⟩; have sS := sS.below h6; replace sZ := sZ.rk; (try replace h6 := bu h6); have HP := HP.below h6; obtain ⟨c0, c1, c2, c3, c4, c5⟩ := cells6 HP; have hB := bt_ hB h6)
    | (go_at_call 61; refine (rPoints_c _ _ _ sZ hfl2.out).mono ?_; rintro e w6 ⟨vP, rfl, sP, h6⟩; have sS := sS.below h6; replace sP := sP.rk; (try replace h6 := bu h6); have HP := HP.below h6; obtain ⟨c0, c1, c2, c3, c4, c5⟩ := cells6 HP; have hB := bt_ hB h6)
    | (refine step_app_yy (w0 := wB) (by rfl) (.tmp 10) (.tmp 14) (by rfl) _ _ _ _ (by rfl) (by rfl) sS sP hB hl8.out ?_; intro v8 w8 hO8 hB8 hg8; obtain ⟨c0, c1, c2, c3, c4, c5⟩ := cells6 (hPx.out.below hB8))
    | fail)
  rw [hx.out] at hO8
  have hrd := Kd.C_below hrd hB8
  obtain ⟨A8, c8, rfl⟩ := rk_form hO8.rk
  clear sS sP sZ hB hu hPx hg8
  have hL := lit_own (w0 := w8) (W := w8) [] #[] rfl 0 rfl (by decide) (Nat.le_refl _)
  have hB1 := below_alloc (Below.refl w8.heap.size w8) (.cells #[] 5)
  have hv2 : Rb (w8.alloc (.cells #[] 5)) (.slice Ad d.length cd) d := ⟨Ad, cd, rfl, hcd, Kd.C_below hrd hB1⟩
  have hd9 : d.length ≤ 5000 := Nat.le_trans hL2.out (by omega)
  go_wp2_with (at_builtin; refine app_many (enc := bV) (w0 := w8) rfl (.tmp 16) (.tmp 17) 40 5 (.int .u8 0) 1 rfl Try.underlying40 infoB rfl (by decide) _ [] d _ rfl rfl hL hv2 hB1 ?hl ?_; (case hl => (simp; omega)); intro v1 w1 ho hb hg)
  rw [List.nil_append] at ho
  have hO : Ob w8 w1 v1 (szd d d.length) := by rw [szd_self]; exact ho
  have hB := hb
  clear ho hb hg hL hB1 hv2
  go_wp2_with fail
  go_loopw [8] (fun s wr => ∃ n : Nat, d.length ≤ n ∧ n ≤ (shXs p zs).length ∧ (∃ A c, s = .slice A n c) ∧ Ob w8 wr s (szd d n) ∧ Below w8.heap.size w8 wr) (fun s _ => match s with | .slice _ n _ => (shXs p zs).length - n | _ => 0)
  case atStart =>
    obtain ⟨A9, n9, e9⟩ := rk_form hO.rk
    exact ⟨d.length, Nat.le_refl _, hL2.out, ⟨A9, n9, by rw [e9, szd_len]⟩, hO, hB⟩
  case round =>
    clear hO hB
    obtain ⟨n, hn1, hn2, ⟨A9, c9, rfl⟩, hO, hB⟩ := hrel
    by_cases hlt : n < (shXs p zs).length
    · have hS : Hid (szd d (n + 1) = szd d n ++ [0]) := Lib.hid (by rw [szd_snoc, List.getD_eq_getElem?_getD, List.getElem?_eq_none hn1]; rfl)
      have hl9 : Hid ((szd d n).length = n) := Lib.hid (szd_len _ _)
      have s1 : decide ((n : Int) < ((shXs p zs).length : Int)) = true := decide_eq_true (by omega)
      have hn3 : (szd d n).length ≤ 1000 := by rw [hl9.out]; omega
      go_wp2_with (at_builtin; refine app_one (enc := bV) rfl (.tmp 24) (.tmp 25) 40 5 (.int .u8 0) 1 rfl Try.underlying40 infoB rfl (by decide) _ _ (0 : F) rfl rfl _ (bV_eq ?hc) hO hB ?hl ?_; (case hc => (first | exact rfl | exact rfl)); (case hl => (first | (simp; omega) | omega)); intro v1 w1 ho hb hg)
      rw [← hS.out] at ho
      obtain ⟨A7, c7, rfl⟩ := rk_form ho.rk
      rw [szd_len] at ho ⊢
      exact ⟨⟨n + 1, by omega, by omega, ⟨A7, c7, rfl⟩, ho, hb⟩, by simp; omega⟩
    · obtain rfl : n = (shXs p zs).length := by omega
      have sX := hO8.rk.below hB
      go_wp2_with fail
      refine (rThrough_c _ _ (shXs p zs) (szd d (shXs p zs).length) _ sX hO.rk hL1.out (by omega)).mono ?_
      rintro e w9 ⟨z, rfl, oz, h9⟩
      rw [hfin.out] at oz
      go_wp2
      go_ret
      exact ⟨_, rfl, (oz.lower hB).lower hB8 |>.lower hBx.out, bt_ hBx.out (bt_ hB8 (bt_ hB h9))⟩
end Go.Proofs.Ytijeabhfddaoaaa
