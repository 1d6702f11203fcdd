/- Laws of the walk: elements of rows of bytes of one's own, read and written; make([]byte, n); copy. -/
import Derived.Test.YtijeabhfddaoaaaK3
namespace Go.Proofs.Ytijeabhfddaoaaa
set_option linter.unusedVariables false
open Go.RowKit Go.Proofs.YtijeabhfddaoaaaW.PrintWords Go.Proofs.Sh

theorem Ob.form {w0 w : World} {v : Value} {l : List F} (h : Ob w0 w v l) (hl : 0 < l.length) : ∃ g cap, v = .slice (some ⟨g, 0, none⟩) l.length cap ∧ w0.heap.size ≤ g ∧ g < w.heap.size := by
  have ho := own_b h
  obtain ⟨g, cap, hv, hb, hlt⟩ := ho.form hl
  exact ⟨g, cap, hv, hb, hlt⟩
theorem Ob.at {w0 w : World} {g n cap : Nat} {l : List F} (h : Ob w0 w (.slice (some ⟨g, 0, none⟩) n cap) l) (j : Nat) (hj : j < l.length) : w.cell? ⟨g, j, none⟩ = some (.int .u8 ((l.getD j 0).n : Int)) ∧ w.frozen? ⟨g, j, none⟩ = false := by
  have ho := own_b h
  constructor
  · have hc := ho.cells (g := g) rfl j (bV (l.getD j 0)) (by simp [List.getElem?_eq_getElem hj, List.getD_eq_getElem?_getD])
    rwa [add_plain] at hc
  · obtain ⟨cells, hc⟩ := own_typed ho g (by simp [Value.ownBlock])
    exact blk_frozen hc _
theorem Ob.set {w0 w : World} {g n cap : Nat} {l : List F} (h : Ob w0 w (.slice (some ⟨g, 0, none⟩) n cap) l) (j : Nat) (x : F) : Ob w0 (w.setCell ⟨g, j, none⟩ (.int .u8 (x.n : Int))) (.slice (some ⟨g, 0, none⟩) n cap) (l.set j x) ∧ w.grownBy (w.setCell ⟨g, j, none⟩ (.int .u8 (x.n : Int))) (some g) := by
  have hn : n = l.length := by obtain ⟨A, c, e, _, _⟩ := h.rk; injection e
  subst hn
  have hs := (own_b h).stored j (bV x)
  refine ⟨b_own ?_, hs.2⟩
  have := hs.1
  rw [List.length_set, List.map_set]
  exact this
/-- To halt a walk at an operation: 'go_wp2_with ((with_reducible refine gate_dst (N := 20) rfl ?_); refine halt ?_)', then 'refine ⟨?_⟩'. -/
structure Halt (p : Prop) : Prop where
  out : p
theorem halt {P : Program} {ops : Array Oper} {l : List Oper} {a : Act} {Q : Exit → Act → World → Prop} {W : World} (h : Halt (wpList P ops Q l a W)) : wpList P ops Q l a W := h.out
theorem take_snoc' {α : Type} (l : List α) (k : Nat) (z : α) (h : k < l.length) : l.take (k + 1) = l.take k ++ [l.getD k z] := by
  rw [List.take_succ_eq_append_getElem h]
  simp [List.getD_eq_getElem?_getD, h]
/-- A literal '[]byte{..}' is a row of one's own. -/
theorem lit_own {w0 W : World} (l : List F) (cs : Array Value) (h : cs.toList = l.map bV) (n : Nat) (hn : n = l.length) (hm : n ≤ 9223372036854775807) (hB : w0.heap.size ≤ W.heap.size) :
    Ob w0 (W.alloc (.cells cs 5)) (.slice (some ⟨W.heap.size, 0, none⟩) n n) l := by
  subst hn
  have ho := World.ownsRow_lit (base := w0.heap.size) (e := 5) (size := 1) W cs l.length hB (by simpa [maxLen] using hm) (by rw [Nat.mul_one, ← Array.length_toList, h, List.length_map])
  rw [h] at ho
  exact b_own ho
theorem Own.alloc {α : Type} {d : Kd α} {e : Nat} {w0 w : World} {v : Value} {l : List α} (h : Own d e w0 w v l) (o : Obj) : Own d e w0 (w.alloc o) v l := h.below (below_alloc (Below.refl _ _) o)
theorem infoC : (Try.prog.info? 5).map (·.size) = some 1 := by kernel_rfl
theorem copy_all (l : List F) : l.take (min l.length (List.replicate l.length (0 : F)).length) ++ (List.replicate l.length (0 : F)).drop (min l.length (List.replicate l.length (0 : F)).length) = l := by
  simp
end Go.Proofs.Ytijeabhfddaoaaa
