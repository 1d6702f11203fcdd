/- The walks of fix.Main, fix.Of, and of the laws' helpers. -/
import Derived.Test.YtacbenjfiabegaaFy
import Derived.Test.YtacbenjfiabegaaR01
import Derived.Test.YtacbenjfiabegaaK7
namespace Go.Proofs.Ytacbenjfiabegaa
set_option linter.unusedVariables false
set_option linter.unusedSimpArgs false
open Go.RowKit Go.Proofs.YtacbenjfiabegaaW.PrintWords Go.Proofs.Sh

theorem cells21 {w : World} {b : Nat} {M S D : Rc} {u v x : Value} {t : TypeId} (h : Blk w b (heldC M S D u v x) t) : w.cell? ⟨b, 0, none⟩ = some (.int .i64 M.k) ∧ w.cell? ⟨b, 1, none⟩ = some (.string M.nm) ∧ w.cell? ⟨b, 2, none⟩ = some (.int .i64 M.a) ∧ w.cell? ⟨b, 3, none⟩ = some (.int .i64 M.e) ∧ w.cell? ⟨b, 4, none⟩ = some (.int .i64 M.m) ∧ w.cell? ⟨b, 5, none⟩ = some (.int .i64 M.z) ∧ w.cell? ⟨b, 6, none⟩ = some (u) ∧ w.cell? ⟨b, 7, none⟩ = some (.int .i64 S.k) ∧ w.cell? ⟨b, 8, none⟩ = some (.string S.nm) ∧ w.cell? ⟨b, 9, none⟩ = some (.int .i64 S.a) ∧ w.cell? ⟨b, 10, none⟩ = some (.int .i64 S.e) ∧ w.cell? ⟨b, 11, none⟩ = some (.int .i64 S.m) ∧ w.cell? ⟨b, 12, none⟩ = some (.int .i64 S.z) ∧ w.cell? ⟨b, 13, none⟩ = some (v) ∧ w.cell? ⟨b, 14, none⟩ = some (.int .i64 D.k) ∧ w.cell? ⟨b, 15, none⟩ = some (.string D.nm) ∧ w.cell? ⟨b, 16, none⟩ = some (.int .i64 D.a) ∧ w.cell? ⟨b, 17, none⟩ = some (.int .i64 D.e) ∧ w.cell? ⟨b, 18, none⟩ = some (.int .i64 D.m) ∧ w.cell? ⟨b, 19, none⟩ = some (.int .i64 D.z) ∧ w.cell? ⟨b, 20, none⟩ = some (x) :=
  ⟨h.cell 0 _ rfl, h.cell 1 _ rfl, h.cell 2 _ rfl, h.cell 3 _ rfl, h.cell 4 _ rfl, h.cell 5 _ rfl, h.cell 6 _ rfl, h.cell 7 _ rfl, h.cell 8 _ rfl, h.cell 9 _ rfl, h.cell 10 _ rfl, h.cell 11 _ rfl, h.cell 12 _ rfl, h.cell 13 _ rfl, h.cell 14 _ rfl, h.cell 15 _ rfl, h.cell 16 _ rfl, h.cell 17 _ rfl, h.cell 18 _ rfl, h.cell 19 _ rfl, h.cell 20 _ rfl⟩
theorem cells4 {w : World} {b : Nat} {v : Vl} {t : TypeId} (h : Blk w b (valC v) t) : w.cell? ⟨b, 0, none⟩ = some (.bool v.p) ∧ w.cell? ⟨b, 1, none⟩ = some (.int .i64 v.a) ∧ w.cell? ⟨b, 2, none⟩ = some (.int .i64 v.e) ∧ w.cell? ⟨b, 3, none⟩ = some (.int .i64 v.z) :=
  ⟨h.cell 0 _ rfl, h.cell 1 _ rfl, h.cell 2 _ rfl, h.cell 3 _ rfl⟩
theorem cells7 {w : World} {b : Nat} {t : TypeId} {x0 x1 x2 x3 x4 x5 x6 : Value} (h : Blk w b #[x0, x1, x2, x3, x4, x5, x6] t) : w.cell? ⟨b, 0, none⟩ = some (x0) ∧ w.cell? ⟨b, 1, none⟩ = some (x1) ∧ w.cell? ⟨b, 2, none⟩ = some (x2) ∧ w.cell? ⟨b, 3, none⟩ = some (x3) ∧ w.cell? ⟨b, 4, none⟩ = some (x4) ∧ w.cell? ⟨b, 5, none⟩ = some (x5) ∧ w.cell? ⟨b, 6, none⟩ = some (x6) :=
  ⟨h.cell 0 _ rfl, h.cell 1 _ rfl, h.cell 2 _ rfl, h.cell 3 _ rfl, h.cell 4 _ rfl, h.cell 5 _ rfl, h.cell 6 _ rfl⟩
set_option maxHeartbeats 2000000 in
theorem put7 {w : World} {b : Nat} {t : TypeId} {x0 x1 x2 x3 x4 x5 x6 : Value} (h : Blk w b #[x0, x1, x2, x3, x4, x5, x6] t) (y0 y1 y2 y3 y4 y5 y6 : Value) : Blk ((((((((w).setCell ⟨b, 0, none⟩ y0).setCell ⟨b, 1, none⟩ y1).setCell ⟨b, 2, none⟩ y2).setCell ⟨b, 3, none⟩ y3).setCell ⟨b, 4, none⟩ y4).setCell ⟨b, 5, none⟩ y5).setCell ⟨b, 6, none⟩ y6) b #[y0, y1, y2, y3, y4, y5, y6] t :=
  (blk_put (blk_put (blk_put (blk_put (blk_put (blk_put (blk_put h 0 y0 rfl) 1 y1 rfl) 2 y2 rfl) 3 y3 rfl) 4 y4 rfl) 5 y5 rfl) 6 y6 rfl)
theorem below7 {w W : World} {b : Nat} (h : Below w.heap.size w W) (hg : w.heap.size ≤ b) (y0 y1 y2 y3 y4 y5 y6 : Value) : Below w.heap.size w ((((((((W).setCell ⟨b, 0, none⟩ y0).setCell ⟨b, 1, none⟩ y1).setCell ⟨b, 2, none⟩ y2).setCell ⟨b, 3, none⟩ y3).setCell ⟨b, 4, none⟩ y4).setCell ⟨b, 5, none⟩ y5).setCell ⟨b, 6, none⟩ y6) :=
  below_set (below_set (below_set (below_set (below_set (below_set (below_set (h) hg) hg) hg) hg) hg) hg) hg
theorem far7 {w0 w : World} {v : Value} {l : List F} {b : Nat} (h : Ob w0 w v l) (hne : some b ≠ v.ownBlock) (y0 y1 y2 y3 y4 y5 y6 : Value) : Ob w0 ((((((((w).setCell ⟨b, 0, none⟩ y0).setCell ⟨b, 1, none⟩ y1).setCell ⟨b, 2, none⟩ y2).setCell ⟨b, 3, none⟩ y3).setCell ⟨b, 4, none⟩ y4).setCell ⟨b, 5, none⟩ y5).setCell ⟨b, 6, none⟩ y6) v l :=
  Rk.far (Rk.far (Rk.far (Rk.far (Rk.far (Rk.far (Rk.far (h) hne 0 y0) hne 1 y1) hne 2 y2) hne 3 y3) hne 4 y4) hne 5 y5) hne 6 y6
theorem shareM_len (M S D : Rc) (v : Vl) (b1 : M.sh.length ≤ 1000) (b2 : D.sh.length ≤ 1000) (b3 : S.sh.length ≤ 1000) : (shareM M S D v).2.2.length ≤ 2000 := by
  unfold shareM
  split
  · simp
  · split
    · show M.sh.length ≤ 2000; omega
    · split
      · show S.sh.length ≤ 2000; omega
      · split
        · show (F.zadd M.sh D.sh).length ≤ 2000
          rw [F.zadd_len]
          omega
        · simp
/-- The main record. -/
def mainM (M S D : Rc) (nm : ByteArray) (mk : Int) (v : Vl) : Rc :=
  if v.p = false then ⟨4, nm, 0, 0, mk, 0, []⟩
  else if (shareM M S D v).1 then ⟨2, nm, v.a, v.e, mk, (shareM M S D v).2.1, (shareM M S D v).2.2⟩
  else ⟨3, nm, v.a, v.e, mk, v.z, []⟩
set_option maxRecDepth 100000 in
set_option maxHeartbeats 3200000 in
theorem main_c (M S D : Rc) (u s x : Value) (nm : ByteArray) (mk : Int) (v : Vl) (w : World) (hu : Rb w u M.sh) (hs : Rb w s S.sh) (hx : Rb w x D.sh) (b1 : M.sh.length ≤ 1000) (b2 : D.sh.length ≤ 1000) (b3 : S.sh.length ≤ 1000) :
   Calls Try.prog 13 #[heldV M S D u s x, .string nm, .int .i64 mk, valV v] w fun e w' => ∃ sv, e = .returned (recV (mainM M S D nm mk v) sv) ∧ Ob w w' sv (mainM M S D nm mk v).sh ∧ Below w.heap.size w w' := by
  have hm := Lib.hid (show mainM M S D nm mk v = if v.p = false then ⟨4, nm, 0, 0, mk, 0, []⟩ else if (shareM M S D v).1 then ⟨2, nm, v.a, v.e, mk, (shareM M S D v).2.1, (shareM M S D v).2.2⟩ else ⟨3, nm, v.a, v.e, mk, v.z, []⟩ from rfl)
  obtain ⟨Au, cu, rfl⟩ := rk_form hu
  obtain ⟨As, cs, rfl⟩ := rk_form hs
  obtain ⟨Ax, cx, rfl⟩ := rk_form hx
  have hH := (Blk.new w (heldC M S D (.slice Au M.sh.length cu) (.slice As S.sh.length cs) (.slice Ax D.sh.length cx)) 35).alloc (.cells (valC v) 33)
  have hV := Blk.new' (w.alloc (.cells (heldC M S D (.slice Au M.sh.length cu) (.slice As S.sh.length cs) (.slice Ax D.sh.length cx)) 35)) (valC v) 33 (n := w.heap.size + 1) (World.size_alloc _ _)
  have hB := below_alloc (below_alloc (Below.refl w.heap.size w) (.cells (heldC M S D (.slice Au M.sh.length cu) (.slice As S.sh.length cs) (.slice Ax D.sh.length cx)) 35)) (.cells (valC v) 33)
  replace hu := hu.below hB
  replace hs := hs.below hB
  replace hx := hx.below hB
  have hz : ((w.alloc (.cells (heldC M S D (.slice Au M.sh.length cu) (.slice As S.sh.length cs) (.slice Ax D.sh.length cx)) 35)).alloc (.cells (valC v) 33)).heap.size = w.heap.size + 2 := by rw [World.size_alloc, World.size_alloc]
  go_enter Try.func13, Try.ntmps13
  go_upto_region 1 with fail
  generalize ((w.alloc (.cells (heldC M S D (.slice Au M.sh.length cu) (.slice As S.sh.length cs) (.slice Ax D.sh.length cx)) 35)).alloc (.cells (valC v) 33)) = w0 at *
  have d0 : w0.cell? ⟨w.heap.size + 1, 0, none⟩ = some (.bool v.p) := hV.cell 0 _ rfl
  cases hp : v.p with
  | false =>
    rw [hp, if_pos rfl] at hm
    rw [hp] at d0
    have d0 := pw_cell_below (below_alloc (Below.refl w0.heap.size w0) (.cells #[.int .i64 0, .string { data := #[] }, .int .i64 0, .int .i64 0, .int .i64 0, .int .i64 0, .slice none 0 0] 24)) d0
    go_wp2
    refine bodyPost_ret (results_cell_row rfl _ _ (w.heap.size + 2) 24 #[.int .i64 4, .string nm, .int .i64 0, .int .i64 0, .int .i64 mk, .int .i64 0, .slice none 0 0] (0, 0) _ rfl (Blk.new' w0 _ _ hz) Try.underlying24 rfl (by kernel_rfl)) rfl ?_
    rw [hm.out]
    exact ⟨_, rfl, Own.nil _ _ _ _, below_alloc hB _⟩
  | true =>
    rw [hp, if_neg (by decide)] at hm
    rw [hp] at d0
    have d1 : w0.cell? ⟨w.heap.size + 1, 1, none⟩ = some (.int .i64 v.a) := hV.cell 1 _ rfl
    have d2 : w0.cell? ⟨w.heap.size + 1, 2, none⟩ = some (.int .i64 v.e) := hV.cell 2 _ rfl
    have d3 : w0.cell? ⟨w.heap.size + 1, 3, none⟩ = some (.int .i64 v.z) := hV.cell 3 _ rfl
    have hb1 := below_alloc (Below.refl w0.heap.size w0) (.cells #[.int .i64 0, .string { data := #[] }, .int .i64 0, .int .i64 0, .int .i64 0, .int .i64 0, .slice none 0 0] 24)
    have d0 := pw_cell_below hb1 d0
    have d1 := pw_cell_below hb1 d1
    have d2 := pw_cell_below hb1 d2
    have d3 := pw_cell_below hb1 d3
    have hH2 := (hH.alloc (.cells #[.int .i64 0, .string { data := #[] }, .int .i64 0, .int .i64 0, .int .i64 0, .int .i64 0, .slice none 0 0] 24)).alloc (.cells #[.int .i64 3, .string nm, .int .i64 v.a, .int .i64 v.e, .int .i64 mk, .int .i64 v.z, .slice none 0 0] 24)
    have hV2 := (hV.alloc (.cells #[.int .i64 0, .string { data := #[] }, .int .i64 0, .int .i64 0, .int .i64 0, .int .i64 0, .slice none 0 0] 24)).alloc (.cells #[.int .i64 3, .string nm, .int .i64 v.a, .int .i64 v.e, .int .i64 mk, .int .i64 v.z, .slice none 0 0] 24)
    have h8 := (Blk.new' w0 #[.int .i64 0, .string { data := #[] }, .int .i64 0, .int .i64 0, .int .i64 0, .int .i64 0, .slice none 0 0] 24 hz).alloc (.cells #[.int .i64 3, .string nm, .int .i64 v.a, .int .i64 v.e, .int .i64 mk, .int .i64 v.z, .slice none 0 0] 24)
    have h9 := Blk.new' (w0.alloc (.cells #[.int .i64 0, .string { data := #[] }, .int .i64 0, .int .i64 0, .int .i64 0, .int .i64 0, .slice none 0 0] 24)) #[.int .i64 3, .string nm, .int .i64 v.a, .int .i64 v.e, .int .i64 mk, .int .i64 v.z, .slice none 0 0] 24 (n := w.heap.size + 2 + 1) (by rw [World.size_alloc, hz])
    have hb2 := below_alloc hb1 (.cells #[.int .i64 3, .string nm, .int .i64 v.a, .int .i64 v.e, .int .i64 mk, .int .i64 v.z, .slice none 0 0] 24)
    replace hu := hu.below hb2
    replace hs := hs.below hb2
    replace hx := hx.below hb2
    replace hB := bt_ hB hb2
    have hsc := Lib.hid (share_c M S D _ _ _ v _ hu hs hx b1 b2)
    clear hu hs hx hb1 hb2 hH hV
    go_wp2_with (first
      | ((with_reducible refine gate_dst (N := 29) rfl ?_); refine wpList_load_row rfl 35 (.tmp 4) rfl w.heap.size rfl 35 (heldC M S D (.slice Au M.sh.length cu) (.slice As S.sh.length cs) (.slice Ax D.sh.length cx)) (0, 0) _ hH2 Try.underlying35 rfl (by kernel_rfl) ?_)
      | ((with_reducible refine gate_dst (N := 30) rfl ?_); refine wpList_load_row rfl 33 (.tmp 7) rfl (w.heap.size + 1) rfl 33 (valC v) (0, 0) _ hV2 Try.underlying33 rfl (by kernel_rfl) ?_)
      | fail)
    clear hH2 hV2
    refine hsc.out.mono ?_
    rintro e w3 ⟨sv, rfl, hsv, hb3⟩
    replace h8 := h8.below hb3
    replace h9 := h9.below hb3
    replace hB := bt_ hB hb3
    clear hsc hb3 d0 d1 d2 d3 hz
    have hlb := Lib.hid (shareM_len M S D v b1 b2 b3)
    generalize shareM M S D v = q at *
    obtain ⟨ok, z, l⟩ := q
    replace hlb : Hid (l.length ≤ 2000) := hlb
    obtain ⟨Av, cv, rfl⟩ := rk_form hsv
    have y8 := blk_frozen h8
    have y9 := blk_frozen h9
    cases ok with
    | false =>
      obtain ⟨p0, p1, p2, p3, p4, p5, p6⟩ := cells7 h8
      obtain ⟨q0, q1, q2, q3, q4, q5, q6⟩ := cells7 h9
      go_wp2
      refine bodyPost_ret (results_cell_row rfl _ _ (w.heap.size + 2) 24 #[.int .i64 3, .string nm, .int .i64 v.a, .int .i64 v.e, .int .i64 mk, .int .i64 v.z, .slice none 0 0] (0, 0) _ rfl (put7 h8 _ _ _ _ _ _ _) Try.underlying24 rfl (by kernel_rfl)) rfl ?_
      rw [hm.out]
      exact ⟨_, rfl, Own.nil _ _ _ _, below7 hB (by omega) _ _ _ _ _ _ _⟩
    | true =>
      have hL := lit_own (w0 := w3) (W := w3) [] #[] rfl 0 rfl (by decide) (Nat.le_refl _)
      have hb9 := below_alloc (Below.refl w3.heap.size w3) (.cells #[] 5)
      have hv2 := hsv.below hb9
      have hl : l.length ≤ 2000 := hlb.out
      go_wp2_with (at_builtin; refine app_many (enc := bV) rfl (.tmp 37) (.tmp 38) 22 5 (.int .u8 0) 1 rfl Try.underlying22 infoB rfl (by decide) _ [] l _ rfl rfl hL hv2 hb9 ?hl ?_; (case hl => (simp; omega)); intro v1 w4 ho hb hg; replace ho : Ob w3 w4 v1 l := ho; have h8 := h8.below hb; have h9 := h9.below hb; obtain ⟨A4, c4, rfl⟩ := rk_form ho.rk; have y8 := blk_frozen h8; have y9 := blk_frozen h9; obtain ⟨p0, p1, p2, p3, p4, p5, p6⟩ := cells7 h8; obtain ⟨q0, q1, q2, q3, q4, q5, q6⟩ := cells7 h9)
      have h8' := put7 (((h8.far (show w.heap.size + 2 ≠ w.heap.size + 2 + 1 by omega) 0 (.int .i64 2)).far (show w.heap.size + 2 ≠ w.heap.size + 2 + 1 by omega) 5 (.int .i64 z)).far (show w.heap.size + 2 ≠ w.heap.size + 2 + 1 by omega) 6 (.slice A4 l.length c4)) (.int .i64 2) (.string nm) (.int .i64 v.a) (.int .i64 v.e) (.int .i64 mk) (.int .i64 z) (.slice A4 l.length c4)
      have n9 := own_ne (own_b ho) h9 (by decide)
      have n8 := own_ne (own_b ho) h8 (by decide)
      have hO := far7 (Rk.far (Rk.far (Rk.far ho n9 0 (.int .i64 2)) n9 5 (.int .i64 z)) n9 6 (.slice A4 l.length c4)) n8 (.int .i64 2) (.string nm) (.int .i64 v.a) (.int .i64 v.e) (.int .i64 mk) (.int .i64 z) (.slice A4 l.length c4)
      have hB9 := below7 (below_set (below_set (below_set (bt_ hB hb) (show w.heap.size ≤ w.heap.size + 2 + 1 by omega) (j := 0) (v := .int .i64 2)) (show w.heap.size ≤ w.heap.size + 2 + 1 by omega) (j := 5) (v := .int .i64 z)) (show w.heap.size ≤ w.heap.size + 2 + 1 by omega) (j := 6) (v := .slice A4 l.length c4)) (show w.heap.size ≤ w.heap.size + 2 by omega) (.int .i64 2) (.string nm) (.int .i64 v.a) (.int .i64 v.e) (.int .i64 mk) (.int .i64 z) (.slice A4 l.length c4)
      refine bodyPost_ret (results_cell_row rfl _ _ (w.heap.size + 2) 24 #[.int .i64 2, .string nm, .int .i64 v.a, .int .i64 v.e, .int .i64 mk, .int .i64 z, .slice A4 l.length c4] (0, 0) _ rfl h8' Try.underlying24 rfl (by kernel_rfl)) rfl ?_
      rw [hm.out]
      exact ⟨_, rfl, hO.lower hB, hB9⟩
end Go.Proofs.Ytacbenjfiabegaa
