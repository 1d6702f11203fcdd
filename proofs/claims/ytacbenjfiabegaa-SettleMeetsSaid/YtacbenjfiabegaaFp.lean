/- The walks of the record's Same (of equal ones), of fix.Left, and of the document's example. -/
import Derived.Test.YtacbenjfiabegaaFo
import Derived.Test.YtacbenjfiabegaaK6
namespace Go.Proofs.Ytacbenjfiabegaa
set_option linter.unusedVariables false
set_option linter.unusedSimpArgs false
open Go.RowKit Go.Proofs.YtacbenjfiabegaaW.PrintWords Go.Proofs.Sh

set_option maxRecDepth 100000 in
set_option maxHeartbeats 1600000 in
theorem same20_c (r : Rc) (u v : Value) (w : World) (hu : Rb w u r.sh) (hv : Rb w v r.sh) :
   Calls Try.prog 16 #[recV r u, recV r v] w fun e w' => e = .returned (.bool true) ∧ Below w.heap.size w w' := by
  obtain ⟨A, c, rfl⟩ := rk_form hu
  obtain ⟨B, d, rfl⟩ := rk_form hv
  have h1 := (Blk.new w (recC r (.slice A r.sh.length c)) 24).alloc (.cells (recC r (.slice B r.sh.length d)) 24)
  have h2 := Blk.new' (w.alloc (.cells (recC r (.slice A r.sh.length c)) 24)) (recC r (.slice B r.sh.length d)) 24 (n := w.heap.size + 1) (World.size_alloc _ _)
  have hB := below_alloc (below_alloc (Below.refl w.heap.size w) (.cells (recC r (.slice A r.sh.length c)) 24)) (.cells (recC r (.slice B r.sh.length d)) 24)
  replace hu := hu.below hB
  replace hv := hv.below hB
  go_enter Try.func16, Try.ntmps16
  go_upto_region 1 with fail
  generalize ((w.alloc (.cells (recC r (.slice A r.sh.length c)) 24)).alloc (.cells (recC r (.slice B r.sh.length d)) 24)) = w0 at *
  obtain ⟨p0, p1, p2, p3, p4, p5, p6⟩ := cells7 h1
  obtain ⟨q0, q1, q2, q3, q4, q5, q6⟩ := cells7 h2
  clear h1 h2
  go_wp2_with fail
  refine (rSame_c _ _ _ _ _ hu hv).mono ?_
  rintro e w1 ⟨rfl, h9⟩
  rw [decide_eq_true rfl]
  replace hB := bt_ hB h9.below
  clear h9 p0 p1 p2 p3 p4 p5 p6 q0 q1 q2 q3 q4 q5 q6
  go_wp2
  go_ret
  exact ⟨rfl, hB⟩
set_option maxRecDepth 100000 in
set_option maxHeartbeats 1600000 in
theorem left_c (M S D : Rc) (u s x : Value) (w : World) :
   Calls Try.prog 20 #[heldV M S D u s x] w fun e w' => e = .returned (.bool ((S.k == 1) || (D.k == 5))) ∧ Below w.heap.size w w' := by
  have hH := Blk.new w (heldC M S D u s x) 35
  have hB := below_alloc (Below.refl w.heap.size w) (.cells (heldC M S D u s x) 35)
  go_enter Try.func20, Try.ntmps20
  go_upto_region 1 with fail
  generalize (w.alloc (.cells (heldC M S D u s x) 35)) = w0 at *
  have e7 : w0.cell? ⟨w.heap.size, 7, none⟩ = some (.int .i64 S.k) := hH.cell 7 _ rfl
  have e14 : w0.cell? ⟨w.heap.size, 14, none⟩ = some (.int .i64 D.k) := hH.cell 14 _ rfl
  clear hH
  generalize hb1 : (S.k == 1) = b1 at *
  generalize hb2 : (D.k == 5) = b2 at *
  cases b1 <;> cases b2
  all_goals
    go_wp2
    go_ret
    exact ⟨by rw [hb1, hb2]; rfl, hB⟩
/-- An operation whose guard is known to want it. -/
theorem wl_wanted {P : Program} {ops : Array Oper} {rest : List Oper} {o : Oper} {a : Act} {Q : Exit → Act → World → Prop} {W : World} (hw : Region.wanted o (yielded ops a.tmps) = true) (h : wpList P ops Q ({ o with guard := none } :: rest) a W) : wpList P ops Q (o :: rest) a W := by
  have h1 : Region.wanted { o with guard := none } (yielded ops a.tmps) = true := rfl
  unfold wpList at h ⊢
  rw [if_pos h1] at h
  rw [if_pos hw]
  exact h
def exM : Rc := ⟨2, { data := #[97] }, 3, 3, 4, 1, [F.of 6]⟩
def exD : Rc := ⟨5, { data := #[97] }, 3, 5, 3, 0, [F.of 3]⟩
def noR : Rc := ⟨0, { data := #[] }, 0, 0, 0, 0, []⟩
def exV : Vl := ⟨true, 3, 5, 1⟩
theorem ex_main : mainM exM noR exD { data := #[97] } 9 exV = ⟨2, { data := #[97] }, 3, 5, 9, 1, [F.of 5]⟩ := by kernel_rfl
set_option maxRecDepth 100000 in
set_option maxHeartbeats 1600000 in
theorem alive29_c (w : World) :
   Calls Try.prog 12 #[] w fun e w' => e = .returned (.bool true) ∧ Below w.heap.size w w' := by
  have h2 : Blk (((w.alloc (.cells #[.int .u8 6] 5)).alloc (.cells #[.int .u8 3] 5)).alloc (.cells #[.int .i64 0, .string { data := #[] }, .int .i64 0, .int .i64 0, .int .i64 0, .int .i64 0, .slice none 0 0, .int .i64 0, .string { data := #[] }, .int .i64 0, .int .i64 0, .int .i64 0, .int .i64 0, .slice none 0 0, .int .i64 0, .string { data := #[] }, .int .i64 0, .int .i64 0, .int .i64 0, .int .i64 0, .slice none 0 0] 35)) (w.heap.size + 2) #[.int .i64 0, .string { data := #[] }, .int .i64 0, .int .i64 0, .int .i64 0, .int .i64 0, .slice none 0 0, .int .i64 0, .string { data := #[] }, .int .i64 0, .int .i64 0, .int .i64 0, .int .i64 0, .slice none 0 0, .int .i64 0, .string { data := #[] }, .int .i64 0, .int .i64 0, .int .i64 0, .int .i64 0, .slice none 0 0] 35 := Blk.new' _ _ _ (by rw [World.size_alloc, World.size_alloc])
  have r0 : Rb ((w.alloc (.cells #[.int .u8 6] 5)).alloc (.cells #[.int .u8 3] 5)) (.slice (some ⟨w.heap.size, 0, none⟩) 1 1) [F.of 6] := (lit_b w [F.of 6] #[.int .u8 6] 5 1 1 rfl rfl (by decide) (by decide)).alloc _
  have r1 : Rb ((w.alloc (.cells #[.int .u8 6] 5)).alloc (.cells #[.int .u8 3] 5)) (.slice (some ⟨w.heap.size + 1, 0, none⟩) 1 1) [F.of 3] := by
    have := lit_b (w.alloc (.cells #[.int .u8 6] 5)) [F.of 3] #[.int .u8 3] 5 1 1 rfl rfl (by decide) (by decide)
    rw [World.size_alloc] at this
    exact this
  have hB := below_alloc (below_alloc (Below.refl w.heap.size w) (.cells #[.int .u8 6] 5)) (.cells #[.int .u8 3] 5)
  have hb2 : Below ((w.alloc (.cells #[.int .u8 6] 5)).alloc (.cells #[.int .u8 3] 5)).heap.size ((w.alloc (.cells #[.int .u8 6] 5)).alloc (.cells #[.int .u8 3] 5)) ((((w.alloc (.cells #[.int .u8 6] 5)).alloc (.cells #[.int .u8 3] 5)).alloc (.cells #[.int .i64 0, .string { data := #[] }, .int .i64 0, .int .i64 0, .int .i64 0, .int .i64 0, .slice none 0 0, .int .i64 0, .string { data := #[] }, .int .i64 0, .int .i64 0, .int .i64 0, .int .i64 0, .slice none 0 0, .int .i64 0, .string { data := #[] }, .int .i64 0, .int .i64 0, .int .i64 0, .int .i64 0, .slice none 0 0] 35)).setRow (w.heap.size + 2) (heldC exM noR exD (.slice (some ⟨w.heap.size, 0, none⟩) 1 1) (.slice none 0 0) (.slice (some ⟨w.heap.size + 1, 0, none⟩) 1 1))) := below_setRow (below_alloc (Below.refl _ _) _) (by rw [World.size_alloc, World.size_alloc]; omega) _
  have k35 : Blk ((((w.alloc (.cells #[.int .u8 6] 5)).alloc (.cells #[.int .u8 3] 5)).alloc (.cells #[.int .i64 0, .string { data := #[] }, .int .i64 0, .int .i64 0, .int .i64 0, .int .i64 0, .slice none 0 0, .int .i64 0, .string { data := #[] }, .int .i64 0, .int .i64 0, .int .i64 0, .int .i64 0, .slice none 0 0, .int .i64 0, .string { data := #[] }, .int .i64 0, .int .i64 0, .int .i64 0, .int .i64 0, .slice none 0 0] 35)).setRow (w.heap.size + 2) (heldC exM noR exD (.slice (some ⟨w.heap.size, 0, none⟩) 1 1) (.slice none 0 0) (.slice (some ⟨w.heap.size + 1, 0, none⟩) 1 1))) (w.heap.size + 2) (heldC exM noR exD (.slice (some ⟨w.heap.size, 0, none⟩) 1 1) (.slice none 0 0) (.slice (some ⟨w.heap.size + 1, 0, none⟩) 1 1)) 35 := setRow_heap _ _ _ _ _ _ h2
  replace r0 := r0.below hb2
  replace r1 := r1.below hb2
  replace hB := bt_ hB hb2
  have hex := Lib.hid ex_main
  go_enter Try.func12, Try.ntmps12
  go_wp2_with (first
    | (refine wpList_store_row rfl 35 (.tmp 1) (.tmp 7) rfl (w.heap.size + 2) (heldC exM noR exD (.slice (some ⟨w.heap.size, 0, none⟩) 1 1) (.slice none 0 0) (.slice (some ⟨w.heap.size + 1, 0, none⟩) 1 1)) rfl rfl 35 #[.int .i64 0, .string { data := #[] }, .int .i64 0, .int .i64 0, .int .i64 0, .int .i64 0, .slice none 0 0, .int .i64 0, .string { data := #[] }, .int .i64 0, .int .i64 0, .int .i64 0, .int .i64 0, .slice none 0 0, .int .i64 0, .string { data := #[] }, .int .i64 0, .int .i64 0, .int .i64 0, .int .i64 0, .slice none 0 0] h2 (by kernel_rfl) rfl (by simp [Value.oneCell']) ?_)
    | ((with_reducible refine gate_dst (N := 8) rfl ?_); refine wpList_load_row rfl 35 (.tmp 1) rfl (w.heap.size + 2) rfl 35 (heldC exM noR exD (.slice (some ⟨w.heap.size, 0, none⟩) 1 1) (.slice none 0 0) (.slice (some ⟨w.heap.size + 1, 0, none⟩) 1 1)) (0, 0) _ k35 Try.underlying35 rfl (by kernel_rfl) ?_)
    | fail)
  generalize ((((w.alloc (.cells #[.int .u8 6] 5)).alloc (.cells #[.int .u8 3] 5)).alloc (.cells #[.int .i64 0, .string { data := #[] }, .int .i64 0, .int .i64 0, .int .i64 0, .int .i64 0, .slice none 0 0, .int .i64 0, .string { data := #[] }, .int .i64 0, .int .i64 0, .int .i64 0, .int .i64 0, .slice none 0 0, .int .i64 0, .string { data := #[] }, .int .i64 0, .int .i64 0, .int .i64 0, .int .i64 0, .slice none 0 0] 35)).setRow (w.heap.size + 2) (heldC exM noR exD (.slice (some ⟨w.heap.size, 0, none⟩) 1 1) (.slice none 0 0) (.slice (some ⟨w.heap.size + 1, 0, none⟩) 1 1))) = w5 at *
  refine (main_c exM noR exD _ _ _ { data := #[97] } 9 exV w5 r0 (nilB _) r1 (by decide) (by decide) (by decide)).mono ?_
  rintro e w6 ⟨sv, rfl, hsv, h6⟩
  replace hsv := hsv.rk
  rw [hex.out] at hsv ⊢
  replace k35 := k35.below h6
  replace hB := bt_ hB h6
  clear h6 r0 r1 hb2 h2 hex
  obtain ⟨A6, c6, rfl⟩ := rk_form hsv
  obtain ⟨ad, e1, d1⟩ := kb_at (rk_C hsv) 0 (by decide)
  subst e1
  rw [add_0] at d1
  have d1 : w6.cell? ad = some (.int .u8 5) := d1
  have hb7 := below_alloc (Below.refl w6.heap.size w6) (.cells #[.int .i64 2, .string { data := #[97] }, .int .i64 3, .int .i64 5, .int .i64 9, .int .i64 1, .slice (some ad) 1 c6] 24)
  have k35 := k35.below hb7
  have d1 := pw_cell_below hb7 d1
  replace hB := bt_ hB hb7
  have hpos : 0 < [F.of 5].length := by decide
  have hl := Lib.hid (fun W => left_c exM noR exD (.slice (some ⟨w.heap.size, 0, none⟩) 1 1) (.slice none 0 0) (.slice (some ⟨w.heap.size + 1, 0, none⟩) 1 1) W)
  go_wp2_with (first
    | ((with_reducible refine gate_dst (N := 38) rfl ?_); (refine wl_wanted (by rfl) ?_; dsimp only); refine wpList_load_row rfl 35 (.tmp 1) rfl (w.heap.size + 2) rfl 35 (heldC exM noR exD (.slice (some ⟨w.heap.size, 0, none⟩) 1 1) (.slice none 0 0) (.slice (some ⟨w.heap.size + 1, 0, none⟩) 1 1)) (0, 0) _ k35 Try.underlying35 rfl (by kernel_rfl) ?_)
    | fail)
  refine (hl.out _).mono ?_
  rintro e w8 ⟨rfl, h8⟩
  replace hB := bt_ hB h8
  clear h8 k35 d1
  go_wp2
  go_ret
  exact ⟨rfl, hB⟩
end Go.Proofs.Ytacbenjfiabegaa
