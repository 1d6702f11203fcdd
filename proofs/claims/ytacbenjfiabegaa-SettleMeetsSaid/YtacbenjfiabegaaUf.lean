/- The walk of the law's alive. -/
import Derived.Test.YtacbenjfiabegaaUe
import Derived.Test.YtacbenjfiabegaaA08
namespace Go.Proofs.Ytacbenjfiabegaa
set_option linter.unusedVariables false
set_option linter.unusedSimpArgs false
open Go.RowKit Go.Proofs.YtacbenjfiabegaaW.PrintWords Go.Proofs.Sh

def mC2 (x y : Ms) : Array Value := #[.int .i64 x.k, .int .i64 x.f, .int .i64 x.t, .int .i64 x.b, .string x.nm, .int .i64 x.a, .int .i64 x.e, .int .i64 x.m, .int .i64 x.z, .int .i64 x.h, x.who, x.nms, x.dat,
  .int .i64 y.k, .int .i64 y.f, .int .i64 y.t, .int .i64 y.b, .string y.nm, .int .i64 y.a, .int .i64 y.e, .int .i64 y.m, .int .i64 y.z, .int .i64 y.h, y.who, y.nms, y.dat]
theorem run_lit_msg2 (x y : Ms) (w : World) : (Instr.buildSlice 49 2 #[(0, mV x), (1, mV y)]).run Try.prog w = .ok (.slice (some ⟨w.heap.size, 0, none⟩) 2 2) (w.alloc (.cells (mC2 x y) 56)) := by
  kernel_rfl
theorem wpList_lit_msg2 {ops : Array Oper} {rest : List Oper} {o : Oper} {a : Act} {w : World} {Q : Exit → Act → World → Prop} (hgd : o.guard = none) (y1 y2 : Operand) (ho : o.op = .buildSlice 49 2 #[(0, y1), (1, y2)])
    (x y : Ms) (hx : a.eval y1 = mV x) (hy : a.eval y2 = mV y)
    (h : wpList Try.prog ops Q rest (a.put o.dst (.slice (some ⟨w.heap.size, 0, none⟩) 2 2)) (w.alloc (.cells (mC2 x y) 56))) : wpList Try.prog ops Q (o :: rest) a w :=
  wpList_plain hgd fun _ hK => by
    unfold Oper.wp execOp
    simp only [ho, hx, hy, List.map_toArray, List.map_cons, List.map_nil, Sem.run_bind, Sem.run_pure, Result.andThen_ok, run_lit_msg2 x y w]
    exact hK _ _ h
/-- A message that is built of parts. -/
theorem wpList_build_msg {ops : Array Oper} {rest : List Oper} {o : Oper} {a : Act} {w : World} {Q : Exit → Act → World → Prop} (hgd : o.guard = none) (ps : Array (Nat × Operand)) (ho : o.op = .build 56 ps)
    (x : Ms) (hx : (Instr.build 56 (ps.map fun (i, y) => (i, a.eval y))).run Try.prog w = .ok (mV x) w)
    (h : wpList Try.prog ops Q rest (a.put o.dst (mV x)) w) : wpList Try.prog ops Q (o :: rest) a w :=
  wpList_plain hgd fun _ hK => by
    unfold Oper.wp execOp
    simp only [ho, hx, Sem.run_bind, Sem.run_pure, Result.andThen_ok]
    exact hK _ _ h
theorem lit_ms2 (w : World) (x y : Ms) (h : Rd w x) (h' : Rd w y) : Ml (w.alloc (.cells (mC2 x y) 56)) (.slice (some ⟨w.heap.size, 0, none⟩) 2 2) [x, y] := by
  have hB := Blk.new w (mC2 x y) 56
  have hb := below_alloc (Below.refl w.heap.size w) (.cells (mC2 x y) 56)
  refine ⟨⟨some ⟨w.heap.size, 0, none⟩, 2, rfl, Nat.le_refl _, ⟨rfl, by simp, fun _ => ⟨_, rfl, fun j p hj => ?_⟩⟩⟩, fun z hz => ?_⟩
  · have hj0 : j < 2 := (List.getElem?_eq_some_iff.1 hj).1
    rcases (show j = 0 ∨ j = 1 by omega) with rfl | rfl
    · obtain rfl : x = p := by simpa using hj
      refine ⟨(mC x).toList, rfl, ⟨rfl, h.ok⟩, fun i u hu => ?_⟩
      have hi : i < 13 := (List.getElem?_eq_some_iff.1 hu).1
      have e : ((⟨w.heap.size, 0, none⟩ : Addr).add (0 * km.sz + i)) = ⟨w.heap.size, i, none⟩ := by rw [Nat.zero_mul, Nat.zero_add, add_plain]
      rw [e, blk_cell hB i, ← hu]
      match i, hi with
      | 0, _ | 1, _ | 2, _ | 3, _ | 4, _ | 5, _ | 6, _ | 7, _ | 8, _ | 9, _ | 10, _ | 11, _ | 12, _ => rfl
    · obtain rfl : y = p := by simpa using hj
      refine ⟨(mC y).toList, rfl, ⟨rfl, h'.ok⟩, fun i u hu => ?_⟩
      have hi : i < 13 := (List.getElem?_eq_some_iff.1 hu).1
      have e : ((⟨w.heap.size, 0, none⟩ : Addr).add (1 * km.sz + i)) = ⟨w.heap.size, 13 + i, none⟩ := by rw [Nat.one_mul, add_plain]; rfl
      rw [e, blk_cell hB (13 + i), ← hu]
      match i, hi with
      | 0, _ | 1, _ | 2, _ | 3, _ | 4, _ | 5, _ | 6, _ | 7, _ | 8, _ | 9, _ | 10, _ | 11, _ | 12, _ => rfl
  · rcases List.mem_cons.1 hz with rfl | hz
    · exact h.below hb
    · obtain rfl : z = y := by simpa using hz
      exact h'.below hb
abbrev mE1 (g : Nat) : Ms := ⟨14, 1, 0, 0, ⟨#[]⟩, 3, 3, 5, 0, 2, .slice (some ⟨g, 0, none⟩) 3 3, .slice none 0 0, .slice none 0 0, [0, 0, 1]⟩
abbrev mE2 (g : Nat) : Ms := ⟨14, 2, 0, 0, ⟨#[]⟩, 0, 0, 7, 0, 4, .slice (some ⟨g, 0, none⟩) 3 3, .slice none 0 0, .slice none 0 0, [0, 0, 1]⟩
theorem nil_rk {α : Type} (d : Kd α) (w : World) : Rk d w (.slice none 0 0) [] := ⟨none, 0, rfl, Nat.le_refl _, Kd.C_nil _ _⟩
set_option maxRecDepth 100000 in
set_option maxHeartbeats 3200000 in
theorem alive36_c (w : World) :
   Calls Try.prog 24 #[] w fun e w' => e = .returned (.bool true) ∧ Below w.heap.size w w' := by
  have hsome := fun W => Lib.hid (some_c W)
  go_enter Try.func24, Try.ntmps24
  go_wp2_with fail
  refine (hsome w).out.mono ?_
  rintro e w1 ⟨rfl, hB1⟩
  clear hsome
  have hr1 := lit_i w1 [0, 0, 1] #[.int .i64 0, .int .i64 0, .int .i64 1] 3 3 3 rfl rfl (by decide) (by decide)
  have hba := below_alloc (Below.refl w1.heap.size w1) (.cells #[.int .i64 0, .int .i64 0, .int .i64 1] 3)
  have hz2 : (w1.alloc (.cells #[.int .i64 0, .int .i64 0, .int .i64 1] 3)).heap.size = w1.heap.size + 1 := World.size_alloc _ _
  have hr2 := lit_i (w1.alloc (.cells #[.int .i64 0, .int .i64 0, .int .i64 1] 3)) [0, 0, 1] #[.int .i64 0, .int .i64 0, .int .i64 1] 3 3 3 rfl rfl (by decide) (by decide)
  have hbb := below_alloc (Below.refl (w1.alloc (.cells #[.int .i64 0, .int .i64 0, .int .i64 1] 3)).heap.size (w1.alloc (.cells #[.int .i64 0, .int .i64 0, .int .i64 1] 3))) (.cells #[.int .i64 0, .int .i64 0, .int .i64 1] 3)
  have hz3 : ((w1.alloc (.cells #[.int .i64 0, .int .i64 0, .int .i64 1] 3)).alloc (.cells #[.int .i64 0, .int .i64 0, .int .i64 1] 3)).heap.size = w1.heap.size + 1 + 1 := by rw [World.size_alloc, hz2]
  rw [hz2] at hr2
  have hR1 : Rd ((w1.alloc (.cells #[.int .i64 0, .int .i64 0, .int .i64 1] 3)).alloc (.cells #[.int .i64 0, .int .i64 0, .int .i64 1] 3)) (mE1 w1.heap.size) := ⟨hr1.below hbb, ⟨[], nil_rk _ _⟩, ⟨[], nil_rk _ _⟩⟩
  have hR2 : Rd ((w1.alloc (.cells #[.int .i64 0, .int .i64 0, .int .i64 1] 3)).alloc (.cells #[.int .i64 0, .int .i64 0, .int .i64 1] 3)) (mE2 (w1.heap.size + 1)) := ⟨hr2, ⟨[], nil_rk _ _⟩, ⟨[], nil_rk _ _⟩⟩
  have hml := lit_ms2 _ _ _ hR1 hR2
  have hB2 := bt_ (bt_ hB1 hba) hbb
  have hbc := below_alloc (Below.refl ((w1.alloc (.cells #[.int .i64 0, .int .i64 0, .int .i64 1] 3)).alloc (.cells #[.int .i64 0, .int .i64 0, .int .i64 1] 3)).heap.size ((w1.alloc (.cells #[.int .i64 0, .int .i64 0, .int .i64 1] 3)).alloc (.cells #[.int .i64 0, .int .i64 0, .int .i64 1] 3))) (.cells (mC2 (mE1 w1.heap.size) (mE2 (w1.heap.size + 1))) 56)
  have hB3 := bt_ hB2 hbc
  rw [hz3] at hml
  clear hB1 hba hbb hbc hB2 hr1 hr2 hR1 hR2
  go_wp2_with (first
    | ((with_reducible refine gate_dst (N := 4) rfl ?_); refine wpList_build_msg rfl _ rfl (mE1 w1.heap.size) (by kernel_rfl) ?_)
    | ((with_reducible refine gate_dst (N := 6) rfl ?_); refine wpList_build_msg rfl _ rfl (mE2 (w1.heap.size + 1)) (by kernel_rfl) ?_)
    | ((with_reducible refine gate_dst (N := 7) rfl ?_); refine wpList_lit_msg2 rfl (.tmp 4) (.tmp 6) rfl (mE1 w1.heap.size) (mE2 (w1.heap.size + 1)) rfl rfl ?_)
    | fail)
  refine (Settle_c somePl somePl_ok _ _ _ hml (show 2 ≤ 1000 by omega)).mono ?_
  generalize ((w1.alloc (.cells #[.int .i64 0, .int .i64 0, .int .i64 1] 3)).alloc (.cells #[.int .i64 0, .int .i64 0, .int .i64 1] 3)).alloc (.cells (mC2 (mE1 w1.heap.size) (mE2 (w1.heap.size + 1))) 56) = w5 at *
  rintro e w6 ⟨z, rfl, hz, h6⟩
  replace hz : Ri w6 z [] := hz
  obtain ⟨A, c, rfl⟩ := rk_form hz
  have e1 : vdC (decide (somePl.N - somePl.W + 1 ≤ ((cntP soundB [mE1 w1.heap.size, mE2 (w1.heap.size + 1)] : Nat) : Int))) ((cntP leftB [mE1 w1.heap.size, mE2 (w1.heap.size + 1)] == 0) && (((settleM [mE1 w1.heap.size, mE2 (w1.heap.size + 1)]).1 == 0) || decide (somePl.W ≤ ((cntP (msB (settleM [mE1 w1.heap.size, mE2 (w1.heap.size + 1)]).1) [mE1 w1.heap.size, mE2 (w1.heap.size + 1)] : Nat) : Int)))) (settleM [mE1 w1.heap.size, mE2 (w1.heap.size + 1)]).2 (settleM [mE1 w1.heap.size, mE2 (w1.heap.size + 1)]).1 (.slice A ([] : List Int).length c) = vdC true false noV 7 (.slice A 0 c) := by kernel_rfl
  rw [e1]
  have hB := bt_ hB3 h6
  clear hml hB3 h6 hz hz2 hz3 e1
  have h8 := Blk.new w6 (vdC false false noV 0 (.slice none 0 0)) 58
  have hb8 := below_alloc (Below.refl w6.heap.size w6) (.cells (vdC false false noV 0 (.slice none 0 0)) 58)
  have h9 : Blk ((w6.alloc (.cells (vdC false false noV 0 (.slice none 0 0)) 58)).setRow w6.heap.size (vdC true false noV 7 (.slice A 0 c))) w6.heap.size (vdC true false noV 7 (.slice A 0 c)) 58 := setRow_heap _ _ _ _ _ _ h8
  have hB9 := below_setRow (bt_ hB hb8) hB.size (vdC true false noV 7 (.slice A 0 c))
  have g0 := h9.cell 0 _ rfl
  have g1 := h9.cell 1 _ rfl
  have g2 := h9.cell 2 _ rfl
  have g3 := h9.cell 3 _ rfl
  have g4 := h9.cell 4 _ rfl
  have g5 := h9.cell 5 _ rfl
  have g6 := h9.cell 6 _ rfl
  have g7 := h9.cell 7 _ rfl
  go_wp2_with (first
    | (refine wpList_store_row rfl 58 (.tmp 1) (.tmp 8) rfl w6.heap.size (vdC true false noV 7 (.slice A 0 c)) rfl rfl 58 (vdC false false noV 0 (.slice none 0 0)) h8 (by kernel_rfl) rfl (by simp [Value.oneCell']) ?_; generalize (w6.alloc (.cells (vdC false false noV 0 (.slice none 0 0)) 58)).setRow w6.heap.size (vdC true false noV 7 (.slice A 0 c)) = w9 at *)
    | fail)
  go_ret
  exact ⟨rfl, hB9⟩
end Go.Proofs.Ytacbenjfiabegaa
