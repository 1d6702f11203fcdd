/- The walk of FixMains. -/
import Derived.Test.YtacbenjfiabegaaFq
import Derived.Test.YtacbenjfiabegaaFr
import Derived.Test.YtacbenjfiabegaaFg
import Derived.Test.YtacbenjfiabegaaK9
import Derived.Laws.StructEq
namespace Go.Proofs.Ytacbenjfiabegaa
set_option linter.unusedVariables false
set_option linter.unusedSimpArgs false
open Go.RowKit Go.Proofs.YtacbenjfiabegaaW.PrintWords Go.Proofs.Sh

theorem main_has (M S D : Rc) (nm : ByteArray) (mk : Int) (v : Vl) : ((mainM M S D nm mk v).k == 2) = (shareM M S D v).1 := by
  obtain ⟨p, a, e, z⟩ := v
  cases p with
  | false => rfl
  | true =>
    rw [main_t]
    generalize shareM M S D ⟨true, a, e, z⟩ = q
    obtain ⟨ok, z, l⟩ := q
    cases ok <;> rfl
set_option maxRecDepth 100000 in
set_option maxHeartbeats 1600000 in
theorem FixMains_c (M S D : Rc) (u s x : Value) (nm : ByteArray) (mk : Int) (v : Vl) (w : World) (hu : Rb w u M.sh) (hs : Rb w s S.sh) (hx : Rb w x D.sh) :
   Calls Try.prog 4 #[heldV M S D u s x, .string nm, .agg (askC mk v)] w fun e w' => e = .returned (.bool true) ∧ Below w.heap.size w w' := by
  obtain ⟨Au, cu, rfl⟩ := rk_form hu
  obtain ⟨As, cs, rfl⟩ := rk_form hs
  obtain ⟨Ax, cx, rfl⟩ := rk_form hx
  have hH := (Blk.new w (heldC M S D (.slice Au M.sh.length cu) (.slice As S.sh.length cs) (.slice Ax D.sh.length cx)) 26).alloc (.cells (askC mk v) 30)
  have hA := Blk.new' (w.alloc (.cells (heldC M S D (.slice Au M.sh.length cu) (.slice As S.sh.length cs) (.slice Ax D.sh.length cx)) 26)) (askC mk v) 30 (n := w.heap.size + 1) (World.size_alloc _ _)
  have hB := below_alloc (below_alloc (Below.refl w.heap.size w) (.cells (heldC M S D (.slice Au M.sh.length cu) (.slice As S.sh.length cs) (.slice Ax D.sh.length cx)) 26)) (.cells (askC mk v) 30)
  replace hu := hu.below hB
  replace hs := hs.below hB
  replace hx := hx.below hB
  have hfr := fun W => Lib.hid (far29_c M S D Au As Ax cu cs cx nm W)
  go_enter Try.func4, Try.ntmps4
  go_upto_region 1 with fail
  generalize ((w.alloc (.cells (heldC M S D (.slice Au M.sh.length cu) (.slice As S.sh.length cs) (.slice Ax D.sh.length cx)) 26)).alloc (.cells (askC mk v) 30)) = w0 at *
  go_wp2_with (first
    | ((with_reducible refine gate_dst (N := 14) rfl ?_); refine wpList_load_row rfl 26 (.tmp 3) rfl w.heap.size rfl 26 (heldC M S D (.slice Au M.sh.length cu) (.slice As S.sh.length cs) (.slice Ax D.sh.length cx)) (0, 0) _ hH Try.underlying26 rfl (by kernel_rfl) ?_)
    | fail)
  refine (hfr _).out.mono ?_
  rintro e w1 ⟨rfl, h1⟩
  replace hu := hu.below h1
  replace hs := hs.below h1
  replace hx := hx.below h1
  replace hH := hH.below h1
  replace hA := hA.below h1
  replace hB := bt_ hB h1
  clear h1 hfr
  cases hf : farH M S D nm with
  | true =>
    clear hf
    go_wp2_with fail
    refine (alive29_c _).mono ?_
    rintro e w9 ⟨rfl, h9⟩
    have hB9 := bt_ hB h9
    clear hB h9
    go_wp2
    go_ret
    exact ⟨rfl, hB9⟩
  | false =>
    obtain ⟨b1, b2, b3⟩ := far_no hf
    clear hf
    have a0 : w1.cell? ⟨w.heap.size + 1, 0, none⟩ = some (.int .i64 mk) := hA.cell 0 _ rfl
    have a1 : w1.cell? ⟨w.heap.size + 1, 1, none⟩ = some (.bool v.p) := hA.cell 1 _ rfl
    have a2 : w1.cell? ⟨w.heap.size + 1, 2, none⟩ = some (.int .i64 v.a) := hA.cell 2 _ rfl
    have a3 : w1.cell? ⟨w.heap.size + 1, 3, none⟩ = some (.int .i64 v.e) := hA.cell 3 _ rfl
    have a4 : w1.cell? ⟨w.heap.size + 1, 4, none⟩ = some (.int .i64 v.z) := hA.cell 4 _ rfl
    go_upto_region 4 with fail
    have hV := Blk.new w1 (valC v) 33
    have hb2 := below_alloc (Below.refl w1.heap.size w1) (.cells (valC v) 33)
    replace hu := hu.below hb2
    replace hs := hs.below hb2
    replace hx := hx.below hb2
    replace hH := hH.below hb2
    replace hA := hA.below hb2
    replace hB := bt_ hB hb2
    replace a0 := pw_cell_below hb2 a0
    replace a1 := pw_cell_below hb2 a1
    replace a2 := pw_cell_below hb2 a2
    replace a3 := pw_cell_below hb2 a3
    replace a4 := pw_cell_below hb2 a4
    clear hb2
    generalize (w1.alloc (.cells (valC v) 33)) = w2 at *
    refine wp_region_inv (Tw w2 (.agg (heldC M S D (.slice Au M.sh.length cu) (.slice As S.sh.length cs) (.slice Ax D.sh.length cx))) nm mk (valV v) (.pointer (some ⟨w.heap.size + 1, 0, none⟩)) (mainM M S D nm mk v)) [([], none), ([(0, some 20)], none), ([], none), ([], none), ([(3, some 23)], none), ([], none), ([(1, some 21), (2, some 22), (4, some 24), (5, some 25)], none), ([], none), ([(6, some 26), (7, some 8)], none)] [(0, some 20), (1, some 21), (2, some 22), (3, some 23), (4, some 24), (5, some 25), (6, some 26), (7, some 8), (8, none)] (by kernel_rfl) (by kernel_rfl) (by kernel_rfl) (by kernel_rfl) Tw.start ⟨?s0, ?s1, ?s2, ?s3, ?s4, ?s5, ?s6, ?s7, ?s8, trivial⟩ ?hQ
    case s0 =>
      intro vs l W hi hd I K hK
      simp only [putV, Act.put, List.setIfInBounds_toArray, List.set_cons_zero, List.set_cons_succ] at hK ⊢
      refine tell_do rfl ?_
      refine wp_load_row 26 (.tmp 3) rfl w.heap.size rfl 26 (heldC M S D (.slice Au M.sh.length cu) (.slice As S.sh.length cs) (.slice Ax D.sh.length cx)) (0, 0) _ (hH.below I.b) Try.underlying26 rfl (by kernel_rfl) ?_
      exact hK _ _ (I.more 0 _ hi (Below.refl _ _) (by decide) (fun _ _ => rfl) (fun h => absurd h (by decide)) (fun h => absurd h (by decide)))
    case s1 =>
      intro vs l W hi hd I K hK
      have e0 := I.f0 (hd (0, some 20) (by simp))
      simp only [putV, Act.put, List.setIfInBounds_toArray, List.set_cons_zero, List.set_cons_succ, e0] at hK ⊢
      refine tell_do rfl ?_
      go_simp
      go_at_call 14
      refine (as_c M S D Au As Ax _ _ _ cu cs cx _).mono ?_
      rintro e W9 ⟨rfl, h9⟩
      exact hK _ _ (I.more 1 _ hi h9 (by decide) (fun _ _ => rfl) (fun h => absurd h (by decide)) (fun h => absurd h (by decide)))
    case s2 =>
      intro vs l W hi hd I K hK
      simp only [putV, Act.put, List.setIfInBounds_toArray, List.set_cons_zero, List.set_cons_succ] at hK ⊢
      refine tell_do rfl ?_
      go_simp
      exact hK _ _ (I.more 2 _ hi (Below.refl _ _) (by decide) (fun _ _ => rfl) (fun h => absurd h (by decide)) (fun h => absurd h (by decide)))
    case s3 =>
      intro vs l W hi hd I K hK
      simp only [putV, Act.put, List.setIfInBounds_toArray, List.set_cons_zero, List.set_cons_succ] at hK ⊢
      refine tell_do rfl ?_
      go_simp
      exact hK _ _ (I.more 3 _ hi (Below.refl _ _) (by decide) (fun _ _ => rfl) (fun h => absurd h (by decide)) (fun h => absurd h (by decide)))
    case s4 =>
      intro vs l W hi hd I K hK
      have e3 := I.f3 (hd (3, some 23) (by simp))
      have a0 := pw_cell_below I.b a0
      simp only [putV, Act.put, List.setIfInBounds_toArray, List.set_cons_zero, List.set_cons_succ, e3] at hK ⊢
      refine tell_do rfl ?_
      go_simp
      exact hK _ _ (I.more 4 _ hi (Below.refl _ _) (by decide) (fun _ _ => rfl) (fun h => absurd h (by decide)) (fun h => absurd h (by decide)))
    case s5 =>
      intro vs l W hi hd I K hK
      simp only [putV, Act.put, List.setIfInBounds_toArray, List.set_cons_zero, List.set_cons_succ] at hK ⊢
      refine tell_do rfl ?_
      refine wp_load_row 33 (.tmp 7) rfl w1.heap.size rfl 33 (valC v) (0, 0) _ (hV.below I.b) Try.underlying33 rfl (by kernel_rfl) ?_
      exact hK _ _ (I.more 5 _ hi (Below.refl _ _) (by decide) (fun _ _ => rfl) (fun h => absurd h (by decide)) (fun h => absurd h (by decide)))
    case s6 =>
      intro vs l W hi hd I K hK
      have e1 := I.f1 (hd (1, some 21) (by simp))
      have e2 := I.f2 (hd (2, some 22) (by simp))
      have e4 := I.f4 (hd (4, some 24) (by simp))
      have e5 := I.f5 (hd (5, some 25) (by simp))
      simp only [putV, Act.put, List.setIfInBounds_toArray, List.set_cons_zero, List.set_cons_succ, e1, e2, e4, e5] at hK ⊢
      refine tell_do rfl ?_
      go_simp
      go_at_call 13
      refine (main_c M S D _ _ _ nm mk v _ (hu.below I.b) (hs.below I.b) (hx.below I.b) (by omega) (by omega) (by omega)).mono ?_
      rintro e W9 ⟨sv, rfl, hsv, h9⟩
      obtain ⟨A9, c9, rfl⟩ := rk_form hsv.rk
      exact hK _ _ (I.more 6 _ hi h9 (by decide) (fun h _ => absurd rfl h) (fun _ => ⟨A9, c9, rfl, hsv.lower I.b⟩) (fun h => absurd h (by decide)))
    case s7 =>
      intro vs l W hi hd I K hK
      simp only [putV, Act.put, List.setIfInBounds_toArray, List.set_cons_zero, List.set_cons_succ] at hK ⊢
      refine tell_do rfl ?_
      go_simp
      exact hK _ _ (I.more 7 _ hi (below_alloc (Below.refl _ _) _) (by decide) (fun _ h => absurd rfl h) (fun h => absurd h (by decide)) (fun _ => ⟨_, _, rfl, Nat.le_refl _, Blk.new _ _ _, rfl⟩))
    case s8 =>
      intro vs l W hi hd I K hK
      have m6 := hd (6, some 26) (by simp)
      have m7 := hd (7, some 8) (by simp)
      obtain ⟨A6, c6, e6, o6⟩ := I.f6 m6
      obtain ⟨b7, cs7, e7, q7, B7, z7, _⟩ := I.f7 m7
      simp only [putV, Act.put, List.setIfInBounds_toArray, List.set_cons_zero, List.set_cons_succ, e6, e7] at hK ⊢
      refine tell_do rfl ?_
      refine wp_store_row 24 (.tmp 8) (.tmp 26) rfl b7 (recC (mainM M S D nm mk v) (.slice A6 (mainM M S D nm mk v).sh.length c6)) rfl rfl 24 cs7 B7 (by kernel_rfl) (by rw [z7]; rfl) (by simp [Value.oneCell']) ?_
      exact hK _ _ (I.put m6 m7 hi b7 cs7 _ e7 q7 B7 rfl e6 undef)
    case hQ =>
      intro vs l W hall I
      have m := fun j (h : j < 9) => hall j h
      have e0 := I.f0 (m 0 (by decide))
      have e1 := I.f1 (m 1 (by decide))
      have e2 := I.f2 (m 2 (by decide))
      have e3 := I.f3 (m 3 (by decide))
      have e4 := I.f4 (m 4 (by decide))
      have e5 := I.f5 (m 5 (by decide))
      obtain ⟨A6, c6, e6, o6⟩ := I.f6 (m 6 (by decide))
      obtain ⟨b8, cs7, e7, q7, h8, z7, e8⟩ := I.f7 (m 7 (by decide))
      have e8 := e8 (m 8 (by decide))
      rw [e6] at e8
      obtain rfl : recC (mainM M S D nm mk v) (.slice A6 (mainM M S D nm mk v).sh.length c6) = cs7 := by injection e8
      have hB2 := I.b
      simp only [putV, Act.put, List.setIfInBounds_toArray, List.set_cons_zero, List.set_cons_succ, e0, e1, e2, e3, e4, e5, e6, e7]
      clear e0 e1 e2 e3 e4 e5 e6 e7 e8 I m hall z7
      have hk2 := Lib.hid (main_has M S D nm mk v)
      have hrm := fun W a b c d e => Lib.hid (rMain_c M S D (.slice Au M.sh.length cu) (.slice As S.sh.length cs) (.slice Ax D.sh.length cx) nm mk v W a b c d e)
      generalize mainM M S D nm mk v = r at *
      replace hH := hH.below hB2
      replace hA := hA.below hB2
      replace hV := hV.below hB2
      replace hu := hu.below hB2
      replace hs := hs.below hB2
      replace hx := hx.below hB2
      replace a0 := pw_cell_below hB2 a0
      replace a1 := pw_cell_below hB2 a1
      replace a2 := pw_cell_below hB2 a2
      replace a3 := pw_cell_below hB2 a3
      replace a4 := pw_cell_below hB2 a4
      replace hB := bt_ hB hB2
      have o8 := o6.rk
      clear o6 hB2
      have hrm := hrm W hu hs hx (by omega) (by omega)
      go_wp2_with (first
        | ((with_reducible refine gate_dst (N := 27) rfl ?_); refine wpList_load_row rfl 26 (.tmp 3) rfl w.heap.size rfl 26 (heldC M S D (.slice Au M.sh.length cu) (.slice As S.sh.length cs) (.slice Ax D.sh.length cx)) (0, 0) _ hH Try.underlying26 rfl (by kernel_rfl) ?_)
        | fail)
      refine hrm.out.mono ?_
      rintro e w7 ⟨sv2, rfl, o9, h7⟩
      obtain ⟨A9, c9, rfl⟩ := rk_form o9
      clear hrm
      have h9 := Blk.new w7 (recC r (.slice A9 r.sh.length c9)) 24
      have hb8 := below_alloc (Below.refl w7.heap.size w7) (.cells (recC r (.slice A9 r.sh.length c9)) 24)
      have hb9 := bt_ h7 hb8
      replace o9 := o9.below hb8
      replace o8 := o8.below hb9
      replace h8 := h8.below hb9
      replace hH := hH.below hb9
      replace hV := hV.below hb9
      replace hu := hu.below hb9
      replace hs := hs.below hb9
      replace hx := hx.below hb9
      replace hB := bt_ hB hb9
      clear hb8 hb9 h7 a0 a1 a2 a3 a4 hA
      go_upto_region 6 with fail
      generalize (w7.alloc (.cells (recC r (.slice A9 r.sh.length c9)) 24)) = w8 at *
      generalize w7.heap.size = b9 at *
      obtain ⟨e0, e1, e2, e3, e4, e5, e6, _⟩ := cells21 hH
      have hof := Lib.hid (of_c M (.slice Au M.sh.length cu) w8)
      go_wp2_with fail
      refine hof.out.mono ?_
      rintro e w10 ⟨rfl, h10⟩
      clear hof e0 e1 e2 e3 e4 e5 e6
      have hro := fun W => Lib.hid (rOf_c M (.slice Au M.sh.length cu) W)
      generalize ofM M = q at *
      have hbx := below_alloc (Below.refl w10.heap.size w10) (.cells (valC q.1) 33)
      have hq := Blk.new w10 (valC q.1) 33
      have hb12 := bt_ h10 hbx
      replace o9 := o9.below hb12
      replace o8 := o8.below hb12
      replace h8 := h8.below hb12
      replace h9 := h9.below hb12
      replace hH := hH.below hb12
      replace hV := hV.below hb12
      replace hu := hu.below hb12
      replace hs := hs.below hb12
      replace hx := hx.below hb12
      replace hB := bt_ hB hb12
      clear h10 hbx hb12
      go_upto_region 7 with fail
      generalize (w10.alloc (.cells (valC q.1) 33)) = w11 at *
      generalize w10.heap.size = bx at *
      obtain ⟨e0, e1, e2, e3, e4, e5, e6, _⟩ := cells21 hH
      go_wp2_with fail
      refine (hro _).out.mono ?_
      rintro e w12 ⟨rfl, h12⟩
      clear hro e0 e1 e2 e3 e4 e5 e6
      have hby := below_alloc (Below.refl w12.heap.size w12) (.cells (valC q.1) 28)
      have hq2 := Blk.new w12 (valC q.1) 28
      have hb13 := bt_ h12 hby
      replace hq := hq.below hb13
      replace o9 := o9.below hb13
      replace o8 := o8.below hb13
      replace h8 := h8.below hb13
      replace h9 := h9.below hb13
      replace hH := hH.below hb13
      replace hV := hV.below hb13
      replace hu := hu.below hb13
      replace hs := hs.below hb13
      replace hx := hx.below hb13
      replace hB := bt_ hB hb13
      clear h12 hby hb13
      go_upto_region 8 with fail
      generalize (w12.alloc (.cells (valC q.1) 28)) = w13 at *
      generalize w12.heap.size = by9 at *
      have hB0 := hB
      clear hB
      have hhas := fun W a b c => Lib.hid (has_c M S D (.slice Au M.sh.length cu) (.slice As S.sh.length cs) (.slice Ax D.sh.length cx) v W a b c (by omega) (by omega))
      have hlf := fun W => Lib.hid (left_c M S D (.slice Au M.sh.length cu) (.slice As S.sh.length cs) (.slice Ax D.sh.length cx) W)
      have hrl := fun W => Lib.hid (rLeft_c M S D (.slice Au M.sh.length cu) (.slice As S.sh.length cs) (.slice Ax D.sh.length cx) W)
      generalize (shareM M S D v).1 = sb at *
      generalize ((S.k == 1) || (D.k == 5)) = lf at *
      refine wp_region_tell [.v (.agg (recC r (.slice A6 r.sh.length c6))), .v (.agg (recC r (.slice A9 r.sh.length c9))), .v (.bool true), .v (.bool true), .v (.agg (heldC M S D (.slice Au M.sh.length cu) (.slice As S.sh.length cs) (.slice Ax D.sh.length cx))), .v (.agg (heldC M S D (.slice Au M.sh.length cu) (.slice As S.sh.length cs) (.slice Ax D.sh.length cx))), .v (.agg (valC v)), .v (.bool sb), .v (.pointer (some ⟨b9, 0, none⟩)), .v (.int .i64 r.k), .v (.bool sb), .v (.bool true), .v (.bool true), .v (.bool true), .v (.agg (heldC M S D (.slice Au M.sh.length cu) (.slice As S.sh.length cs) (.slice Ax D.sh.length cx))), .v (.agg (heldC M S D (.slice Au M.sh.length cu) (.slice As S.sh.length cs) (.slice Ax D.sh.length cx))), .v (.bool lf), .v (.agg (heldC M S D (.slice Au M.sh.length cu) (.slice As S.sh.length cs) (.slice Ax D.sh.length cx))), .v (.bool lf), .v (.bool true), .v (.bool true), .v (.bool true), .v (.agg (valC q.1)), .v (.agg (valC q.1)), .v (.bool true), .v (.bool true), .v (.bool true), .v (.bool q.2), .v (.bool q.2), .v (.bool true), .v (.bool true), .v (.bool true), .v (.bool true), .v (.bool true), .v (.bool true)] [([], none), ([], none), ([(0, some 46), (1, some 47)], none), ([(2, some 48)], none), ([(3, some 49)], some (some 49, true)), ([(3, some 49), (4, some 50)], some (some 49, true)), ([(3, some 49)], some (some 49, true)), ([(3, some 49), (5, some 51), (6, some 52)], some (some 49, true)), ([(3, some 49)], some (some 49, true)), ([(3, some 49), (8, some 54)], some (some 49, true)), ([(3, some 49), (9, some 55)], some (some 49, true)), ([(3, some 49), (7, some 53), (10, some 56)], some (some 49, true)), ([(3, some 49), (11, some 57)], none), ([(12, some 58)], none), ([(13, some 59)], some (some 59, true)), ([(13, some 59), (14, some 60)], some (some 59, true)), ([(13, some 59), (15, some 61)], some (some 59, true)), ([(13, some 59)], some (some 59, true)), ([(13, some 59), (17, some 63)], some (some 59, true)), ([(13, some 59), (16, some 62), (18, some 64)], some (some 59, true)), ([(13, some 59), (19, some 65)], none), ([(20, some 66)], none), ([(21, some 67)], some (some 67, true)), ([(21, some 67)], some (some 67, true)), ([(21, some 67), (22, some 68), (23, some 69)], some (some 67, true)), ([(21, some 67), (24, some 70)], none), ([(25, some 71)], none), ([(26, some 72)], some (some 72, true)), ([(26, some 72)], some (some 72, true)), ([(26, some 72), (27, some 73), (28, some 74)], some (some 72, true)), ([(26, some 72), (29, some 75)], none), ([(30, some 76)], none), ([(31, some 77)], some (some 77, true)), ([(31, some 77), (32, some 78)], none), ([(33, some 79)], none)] [(0, some 46), (1, some 47), (2, some 48), (3, some 49), (4, some 50), (5, some 51), (6, some 52), (7, some 53), (8, some 54), (9, some 55), (10, some 56), (11, some 57), (12, some 58), (13, some 59), (14, some 60), (15, some 61), (16, some 62), (17, some 63), (18, some 64), (19, some 65), (20, some 66), (21, some 67), (22, some 68), (23, some 69), (24, some 70), (25, some 71), (26, some 72), (27, some 73), (28, some 74), (29, some 75), (30, some 76), (31, some 77), (32, some 78), (33, some 79), (34, some 6)] (by kernel_rfl) (by kernel_rfl) (by kernel_rfl) (by kernel_rfl) (by exact ⟨trivial, trivial, trivial, trivial, trivial, trivial, trivial, trivial, trivial, trivial, trivial, trivial, trivial, trivial, trivial, trivial, trivial, trivial, trivial, trivial, trivial, trivial, trivial, trivial, trivial, trivial, trivial, trivial, trivial, trivial, trivial, trivial, trivial, trivial, trivial, trivial⟩) ⟨?s0, ?s1, ?s2, ?s3, ?s4, ?s5, ?s6, ?s7, ?s8, ?s9, ?s10, ?s11, ?s12, ?s13, ?s14, ?s15, ?s16, ?s17, ?s18, ?s19, ?s20, ?s21, ?s22, ?s23, ?s24, ?s25, ?s26, ?s27, ?s28, ?s29, ?s30, ?s31, ?s32, ?s33, ?s34, trivial⟩ ?hQ
      case s0 =>
        intro W hB K hK
        simp only [tellK, Act.put, List.setIfInBounds_toArray, List.set_cons_zero, List.set_cons_succ] at hK ⊢
        refine tell_do rfl ?_
        have k9 : W.cell? ⟨b9, 0, none⟩ = some (.int .i64 r.k) := (h9.below hB).cell 0 _ rfl; have k2 := hk2.out
        refine wp_load_row 24 (.tmp 8) rfl b8 rfl 24 (recC r (.slice A6 r.sh.length c6)) (0, 0) _ (h8.below hB) Try.underlying24 rfl (by kernel_rfl) ?_; exact hK _ (Below.refl _ _)
      case s1 =>
        intro W hB K hK
        simp only [tellK, Act.put, List.setIfInBounds_toArray, List.set_cons_zero, List.set_cons_succ] at hK ⊢
        refine tell_do rfl ?_
        have k9 : W.cell? ⟨b9, 0, none⟩ = some (.int .i64 r.k) := (h9.below hB).cell 0 _ rfl; have k2 := hk2.out
        refine wp_load_row 24 (.tmp 9) rfl b9 rfl 24 (recC r (.slice A9 r.sh.length c9)) (0, 0) _ (h9.below hB) Try.underlying24 rfl (by kernel_rfl) ?_; exact hK _ (Below.refl _ _)
      case s2 =>
        intro W hB K hK
        simp only [tellK, Act.put, List.setIfInBounds_toArray, List.set_cons_zero, List.set_cons_succ] at hK ⊢
        refine tell_do rfl ?_
        have k9 : W.cell? ⟨b9, 0, none⟩ = some (.int .i64 r.k) := (h9.below hB).cell 0 _ rfl; have k2 := hk2.out
        go_simp
        go_at_call 16; refine (same20_c r _ _ W (o8.below hB) (o9.below hB)).mono ?_; rintro e W9 ⟨rfl, g9⟩; exact hK _ g9
      case s3 =>
        intro W hB K hK
        simp only [tellK, Act.put, List.setIfInBounds_toArray, List.set_cons_zero, List.set_cons_succ] at hK ⊢
        refine tell_do rfl ?_
        have k9 : W.cell? ⟨b9, 0, none⟩ = some (.int .i64 r.k) := (h9.below hB).cell 0 _ rfl; have k2 := hk2.out
        go_simp
        exact hK _ (Below.refl _ _)
      case s4 =>
        intro W hB K hK
        simp only [tellK, Act.put, List.setIfInBounds_toArray, List.set_cons_zero, List.set_cons_succ] at hK ⊢
        refine tell_do rfl ?_
        have k9 : W.cell? ⟨b9, 0, none⟩ = some (.int .i64 r.k) := (h9.below hB).cell 0 _ rfl; have k2 := hk2.out
        refine wp_load_row 26 (.tmp 3) rfl w.heap.size rfl 26 (heldC M S D (.slice Au M.sh.length cu) (.slice As S.sh.length cs) (.slice Ax D.sh.length cx)) (0, 0) _ (hH.below hB) Try.underlying26 rfl (by kernel_rfl) ?_; exact hK _ (Below.refl _ _)
      case s5 =>
        intro W hB K hK
        simp only [tellK, Act.put, List.setIfInBounds_toArray, List.set_cons_zero, List.set_cons_succ] at hK ⊢
        refine tell_do rfl ?_
        have k9 : W.cell? ⟨b9, 0, none⟩ = some (.int .i64 r.k) := (h9.below hB).cell 0 _ rfl; have k2 := hk2.out
        go_simp
        go_at_call 14; refine (as_c M S D Au As Ax _ _ _ cu cs cx W).mono ?_; rintro e W9 ⟨rfl, g9⟩; exact hK _ g9
      case s6 =>
        intro W hB K hK
        simp only [tellK, Act.put, List.setIfInBounds_toArray, List.set_cons_zero, List.set_cons_succ] at hK ⊢
        refine tell_do rfl ?_
        have k9 : W.cell? ⟨b9, 0, none⟩ = some (.int .i64 r.k) := (h9.below hB).cell 0 _ rfl; have k2 := hk2.out
        refine wp_load_row 33 (.tmp 7) rfl w1.heap.size rfl 33 (valC v) (0, 0) _ (hV.below hB) Try.underlying33 rfl (by kernel_rfl) ?_; exact hK _ (Below.refl _ _)
      case s7 =>
        intro W hB K hK
        simp only [tellK, Act.put, List.setIfInBounds_toArray, List.set_cons_zero, List.set_cons_succ] at hK ⊢
        refine tell_do rfl ?_
        have k9 : W.cell? ⟨b9, 0, none⟩ = some (.int .i64 r.k) := (h9.below hB).cell 0 _ rfl; have k2 := hk2.out
        go_simp
        go_at_call 19; refine ((hhas W (hu.below hB) (hs.below hB) (hx.below hB)).out).mono ?_; rintro e W9 ⟨rfl, g9⟩; exact hK _ g9
      case s8 =>
        intro W hB K hK
        simp only [tellK, Act.put, List.setIfInBounds_toArray, List.set_cons_zero, List.set_cons_succ] at hK ⊢
        refine tell_do rfl ?_
        have k9 : W.cell? ⟨b9, 0, none⟩ = some (.int .i64 r.k) := (h9.below hB).cell 0 _ rfl; have k2 := hk2.out
        go_simp
        exact hK _ (Below.refl _ _)
      case s9 =>
        intro W hB K hK
        simp only [tellK, Act.put, List.setIfInBounds_toArray, List.set_cons_zero, List.set_cons_succ] at hK ⊢
        refine tell_do rfl ?_
        have k9 : W.cell? ⟨b9, 0, none⟩ = some (.int .i64 r.k) := (h9.below hB).cell 0 _ rfl; have k2 := hk2.out
        go_simp
        exact hK _ (Below.refl _ _)
      case s10 =>
        intro W hB K hK
        simp only [tellK, Act.put, List.setIfInBounds_toArray, List.set_cons_zero, List.set_cons_succ] at hK ⊢
        refine tell_do rfl ?_
        have k9 : W.cell? ⟨b9, 0, none⟩ = some (.int .i64 r.k) := (h9.below hB).cell 0 _ rfl; have k2 := hk2.out
        go_simp
        exact hK _ (Below.refl _ _)
      case s11 =>
        intro W hB K hK
        simp only [tellK, Act.put, List.setIfInBounds_toArray, List.set_cons_zero, List.set_cons_succ] at hK ⊢
        refine tell_do rfl ?_
        have k9 : W.cell? ⟨b9, 0, none⟩ = some (.int .i64 r.k) := (h9.below hB).cell 0 _ rfl; have k2 := hk2.out
        go_simp
        exact hK _ (Below.refl _ _)
      case s12 =>
        intro W hB K hK
        simp only [tellK, Act.put, List.setIfInBounds_toArray, List.set_cons_zero, List.set_cons_succ] at hK ⊢
        refine tell_do rfl ?_
        have k9 : W.cell? ⟨b9, 0, none⟩ = some (.int .i64 r.k) := (h9.below hB).cell 0 _ rfl; have k2 := hk2.out
        go_simp
        exact hK _ (Below.refl _ _)
      case s13 =>
        intro W hB K hK
        simp only [tellK, Act.put, List.setIfInBounds_toArray, List.set_cons_zero, List.set_cons_succ] at hK ⊢
        refine tell_do rfl ?_
        have k9 : W.cell? ⟨b9, 0, none⟩ = some (.int .i64 r.k) := (h9.below hB).cell 0 _ rfl; have k2 := hk2.out
        go_simp
        exact hK _ (Below.refl _ _)
      case s14 =>
        intro W hB K hK
        simp only [tellK, Act.put, List.setIfInBounds_toArray, List.set_cons_zero, List.set_cons_succ] at hK ⊢
        refine tell_do rfl ?_
        have k9 : W.cell? ⟨b9, 0, none⟩ = some (.int .i64 r.k) := (h9.below hB).cell 0 _ rfl; have k2 := hk2.out
        refine wp_load_row 26 (.tmp 3) rfl w.heap.size rfl 26 (heldC M S D (.slice Au M.sh.length cu) (.slice As S.sh.length cs) (.slice Ax D.sh.length cx)) (0, 0) _ (hH.below hB) Try.underlying26 rfl (by kernel_rfl) ?_; exact hK _ (Below.refl _ _)
      case s15 =>
        intro W hB K hK
        simp only [tellK, Act.put, List.setIfInBounds_toArray, List.set_cons_zero, List.set_cons_succ] at hK ⊢
        refine tell_do rfl ?_
        have k9 : W.cell? ⟨b9, 0, none⟩ = some (.int .i64 r.k) := (h9.below hB).cell 0 _ rfl; have k2 := hk2.out
        go_simp
        go_at_call 14; refine (as_c M S D Au As Ax _ _ _ cu cs cx W).mono ?_; rintro e W9 ⟨rfl, g9⟩; exact hK _ g9
      case s16 =>
        intro W hB K hK
        simp only [tellK, Act.put, List.setIfInBounds_toArray, List.set_cons_zero, List.set_cons_succ] at hK ⊢
        refine tell_do rfl ?_
        have k9 : W.cell? ⟨b9, 0, none⟩ = some (.int .i64 r.k) := (h9.below hB).cell 0 _ rfl; have k2 := hk2.out
        go_simp
        go_at_call 20; refine ((hlf W).out).mono ?_; rintro e W9 ⟨rfl, g9⟩; exact hK _ g9
      case s17 =>
        intro W hB K hK
        simp only [tellK, Act.put, List.setIfInBounds_toArray, List.set_cons_zero, List.set_cons_succ] at hK ⊢
        refine tell_do rfl ?_
        have k9 : W.cell? ⟨b9, 0, none⟩ = some (.int .i64 r.k) := (h9.below hB).cell 0 _ rfl; have k2 := hk2.out
        refine wp_load_row 26 (.tmp 3) rfl w.heap.size rfl 26 (heldC M S D (.slice Au M.sh.length cu) (.slice As S.sh.length cs) (.slice Ax D.sh.length cx)) (0, 0) _ (hH.below hB) Try.underlying26 rfl (by kernel_rfl) ?_; exact hK _ (Below.refl _ _)
      case s18 =>
        intro W hB K hK
        simp only [tellK, Act.put, List.setIfInBounds_toArray, List.set_cons_zero, List.set_cons_succ] at hK ⊢
        refine tell_do rfl ?_
        have k9 : W.cell? ⟨b9, 0, none⟩ = some (.int .i64 r.k) := (h9.below hB).cell 0 _ rfl; have k2 := hk2.out
        go_simp
        go_at_call 21; refine ((hrl W).out).mono ?_; rintro e W9 ⟨rfl, g9⟩; exact hK _ g9
      case s19 =>
        intro W hB K hK
        simp only [tellK, Act.put, List.setIfInBounds_toArray, List.set_cons_zero, List.set_cons_succ] at hK ⊢
        refine tell_do rfl ?_
        have k9 : W.cell? ⟨b9, 0, none⟩ = some (.int .i64 r.k) := (h9.below hB).cell 0 _ rfl; have k2 := hk2.out
        go_simp
        exact hK _ (Below.refl _ _)
      case s20 =>
        intro W hB K hK
        simp only [tellK, Act.put, List.setIfInBounds_toArray, List.set_cons_zero, List.set_cons_succ] at hK ⊢
        refine tell_do rfl ?_
        have k9 : W.cell? ⟨b9, 0, none⟩ = some (.int .i64 r.k) := (h9.below hB).cell 0 _ rfl; have k2 := hk2.out
        go_simp
        exact hK _ (Below.refl _ _)
      case s21 =>
        intro W hB K hK
        simp only [tellK, Act.put, List.setIfInBounds_toArray, List.set_cons_zero, List.set_cons_succ] at hK ⊢
        refine tell_do rfl ?_
        have k9 : W.cell? ⟨b9, 0, none⟩ = some (.int .i64 r.k) := (h9.below hB).cell 0 _ rfl; have k2 := hk2.out
        go_simp
        exact hK _ (Below.refl _ _)
      case s22 =>
        intro W hB K hK
        simp only [tellK, Act.put, List.setIfInBounds_toArray, List.set_cons_zero, List.set_cons_succ] at hK ⊢
        refine tell_do rfl ?_
        have k9 : W.cell? ⟨b9, 0, none⟩ = some (.int .i64 r.k) := (h9.below hB).cell 0 _ rfl; have k2 := hk2.out
        refine wp_load_row 33 (.tmp 10) rfl bx rfl 33 (valC q.1) (0, 0) _ (hq.below hB) Try.underlying33 rfl (by kernel_rfl) ?_; exact hK _ (Below.refl _ _)
      case s23 =>
        intro W hB K hK
        simp only [tellK, Act.put, List.setIfInBounds_toArray, List.set_cons_zero, List.set_cons_succ] at hK ⊢
        refine tell_do rfl ?_
        have k9 : W.cell? ⟨b9, 0, none⟩ = some (.int .i64 r.k) := (h9.below hB).cell 0 _ rfl; have k2 := hk2.out
        refine wp_load_row 28 (.tmp 12) rfl by9 rfl 28 (valC q.1) (0, 0) _ (hq2.below hB) Try.underlying28 rfl (by kernel_rfl) ?_; exact hK _ (Below.refl _ _)
      case s24 =>
        intro W hB K hK
        simp only [tellK, Act.put, List.setIfInBounds_toArray, List.set_cons_zero, List.set_cons_succ] at hK ⊢
        refine tell_do rfl ?_
        have k9 : W.cell? ⟨b9, 0, none⟩ = some (.int .i64 r.k) := (h9.below hB).cell 0 _ rfl; have k2 := hk2.out
        go_simp
        exact hK _ (Below.refl _ _)
      case s25 =>
        intro W hB K hK
        simp only [tellK, Act.put, List.setIfInBounds_toArray, List.set_cons_zero, List.set_cons_succ] at hK ⊢
        refine tell_do rfl ?_
        have k9 : W.cell? ⟨b9, 0, none⟩ = some (.int .i64 r.k) := (h9.below hB).cell 0 _ rfl; have k2 := hk2.out
        go_simp
        exact hK _ (Below.refl _ _)
      case s26 =>
        intro W hB K hK
        simp only [tellK, Act.put, List.setIfInBounds_toArray, List.set_cons_zero, List.set_cons_succ] at hK ⊢
        refine tell_do rfl ?_
        have k9 : W.cell? ⟨b9, 0, none⟩ = some (.int .i64 r.k) := (h9.below hB).cell 0 _ rfl; have k2 := hk2.out
        go_simp
        exact hK _ (Below.refl _ _)
      case s27 =>
        intro W hB K hK
        simp only [tellK, Act.put, List.setIfInBounds_toArray, List.set_cons_zero, List.set_cons_succ] at hK ⊢
        refine tell_do rfl ?_
        have k9 : W.cell? ⟨b9, 0, none⟩ = some (.int .i64 r.k) := (h9.below hB).cell 0 _ rfl; have k2 := hk2.out
        go_simp
        exact hK _ (Below.refl _ _)
      case s28 =>
        intro W hB K hK
        simp only [tellK, Act.put, List.setIfInBounds_toArray, List.set_cons_zero, List.set_cons_succ] at hK ⊢
        refine tell_do rfl ?_
        have k9 : W.cell? ⟨b9, 0, none⟩ = some (.int .i64 r.k) := (h9.below hB).cell 0 _ rfl; have k2 := hk2.out
        go_simp
        exact hK _ (Below.refl _ _)
      case s29 =>
        intro W hB K hK
        simp only [tellK, Act.put, List.setIfInBounds_toArray, List.set_cons_zero, List.set_cons_succ] at hK ⊢
        refine tell_do rfl ?_
        have k9 : W.cell? ⟨b9, 0, none⟩ = some (.int .i64 r.k) := (h9.below hB).cell 0 _ rfl; have k2 := hk2.out
        go_simp
        exact hK _ (Below.refl _ _)
      case s30 =>
        intro W hB K hK
        simp only [tellK, Act.put, List.setIfInBounds_toArray, List.set_cons_zero, List.set_cons_succ] at hK ⊢
        refine tell_do rfl ?_
        have k9 : W.cell? ⟨b9, 0, none⟩ = some (.int .i64 r.k) := (h9.below hB).cell 0 _ rfl; have k2 := hk2.out
        go_simp
        exact hK _ (Below.refl _ _)
      case s31 =>
        intro W hB K hK
        simp only [tellK, Act.put, List.setIfInBounds_toArray, List.set_cons_zero, List.set_cons_succ] at hK ⊢
        refine tell_do rfl ?_
        have k9 : W.cell? ⟨b9, 0, none⟩ = some (.int .i64 r.k) := (h9.below hB).cell 0 _ rfl; have k2 := hk2.out
        go_simp
        exact hK _ (Below.refl _ _)
      case s32 =>
        intro W hB K hK
        simp only [tellK, Act.put, List.setIfInBounds_toArray, List.set_cons_zero, List.set_cons_succ] at hK ⊢
        refine tell_do rfl ?_
        have k9 : W.cell? ⟨b9, 0, none⟩ = some (.int .i64 r.k) := (h9.below hB).cell 0 _ rfl; have k2 := hk2.out
        go_simp
        go_at_call 12; refine (alive29_c W).mono ?_; rintro e W9 ⟨rfl, g9⟩; exact hK _ g9
      case s33 =>
        intro W hB K hK
        simp only [tellK, Act.put, List.setIfInBounds_toArray, List.set_cons_zero, List.set_cons_succ] at hK ⊢
        refine tell_do rfl ?_
        have k9 : W.cell? ⟨b9, 0, none⟩ = some (.int .i64 r.k) := (h9.below hB).cell 0 _ rfl; have k2 := hk2.out
        go_simp
        exact hK _ (Below.refl _ _)
      case s34 =>
        intro W hB K hK
        simp only [tellK, Act.put, List.setIfInBounds_toArray, List.set_cons_zero, List.set_cons_succ] at hK ⊢
        refine tell_do rfl ?_
        have k9 : W.cell? ⟨b9, 0, none⟩ = some (.int .i64 r.k) := (h9.below hB).cell 0 _ rfl; have k2 := hk2.out
        go_simp
        exact hK _ (Below.refl _ _)
      case hQ =>
        intro W hB
        simp only [tellGo, sayAt, List.getD_cons_zero, List.getD_cons_succ, Act.put, List.setIfInBounds_toArray, List.set_cons_zero, List.set_cons_succ]
        go_wp2
        go_ret
        exact ⟨rfl, bt_ hB0 hB⟩
theorem FixMains_walk (w : World) (kM : Int) (QkM : -9223372036854775808 ≤ kM ∧ kM ≤ 9223372036854775807) (nM : ByteArray) (QnM : nM.size ≤ 9223372036854775807) (aM : Int) (QaM : -9223372036854775808 ≤ aM ∧ aM ≤ 9223372036854775807) (eM : Int) (QeM : -9223372036854775808 ≤ eM ∧ eM ≤ 9223372036854775807) (mM : Int) (QmM : -9223372036854775808 ≤ mM ∧ mM ≤ 9223372036854775807) (zM : Int) (QzM : -9223372036854775808 ≤ zM ∧ zM ≤ 9223372036854775807) (vM : Value) (lM : List F) (hM : Rb w vM lM) (kS : Int) (QkS : -9223372036854775808 ≤ kS ∧ kS ≤ 9223372036854775807) (nS : ByteArray) (QnS : nS.size ≤ 9223372036854775807) (aS : Int) (QaS : -9223372036854775808 ≤ aS ∧ aS ≤ 9223372036854775807) (eS : Int) (QeS : -9223372036854775808 ≤ eS ∧ eS ≤ 9223372036854775807) (mS : Int) (QmS : -9223372036854775808 ≤ mS ∧ mS ≤ 9223372036854775807) (zS : Int) (QzS : -9223372036854775808 ≤ zS ∧ zS ≤ 9223372036854775807) (vS : Value) (lS : List F) (hS : Rb w vS lS) (kD : Int) (QkD : -9223372036854775808 ≤ kD ∧ kD ≤ 9223372036854775807) (nD : ByteArray) (QnD : nD.size ≤ 9223372036854775807) (aD : Int) (QaD : -9223372036854775808 ≤ aD ∧ aD ≤ 9223372036854775807) (eD : Int) (QeD : -9223372036854775808 ≤ eD ∧ eD ≤ 9223372036854775807) (mD : Int) (QmD : -9223372036854775808 ≤ mD ∧ mD ≤ 9223372036854775807) (zD : Int) (QzD : -9223372036854775808 ≤ zD ∧ zD ≤ 9223372036854775807) (vD : Value) (lD : List F) (hD : Rb w vD lD) (nm : ByteArray) (Qnm : nm.size ≤ 9223372036854775807) (mk : Int) (Qmk : -9223372036854775808 ≤ mk ∧ mk ≤ 9223372036854775807) (p : Bool) (a : Int) (Qa : -9223372036854775808 ≤ a ∧ a ≤ 9223372036854775807) (e : Int) (Qe : -9223372036854775808 ≤ e ∧ e ≤ 9223372036854775807) (z : Int) (Qz : -9223372036854775808 ≤ z ∧ z ≤ 9223372036854775807) :
   Calls Try.prog 4 #[.agg #[.int .i64 kM, .string nM, .int .i64 aM, .int .i64 eM, .int .i64 mM, .int .i64 zM, vM, .int .i64 kS, .string nS, .int .i64 aS, .int .i64 eS, .int .i64 mS, .int .i64 zS, vS, .int .i64 kD, .string nD, .int .i64 aD, .int .i64 eD, .int .i64 mD, .int .i64 zD, vD], .string nm, .agg #[.int .i64 mk, .bool p, .int .i64 a, .int .i64 e, .int .i64 z]] w fun e w' => e = .returned (.bool true) ∧ Below w.heap.size w w' :=
  FixMains_c ⟨kM, nM, aM, eM, mM, zM, lM⟩ ⟨kS, nS, aS, eS, mS, zS, lS⟩ ⟨kD, nD, aD, eD, mD, zD, lD⟩ vM vS vD nm mk ⟨p, a, e, z⟩ w hM hS hD
end Go.Proofs.Ytacbenjfiabegaa
