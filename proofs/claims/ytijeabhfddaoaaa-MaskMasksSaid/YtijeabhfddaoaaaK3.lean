/- Laws of the walk: append(v, u...) of bytes, in a plain region and in one that draws its order; helpers for regions. -/
import Derived.Test.YtijeabhfddaoaaaK2
import Derived.Deep.AppendLies
namespace Go.Proofs.Ytijeabhfddaoaaa
set_option linter.unusedVariables false
open Go.RowKit Go.Proofs.YtijeabhfddaoaaaW.PrintWords Go.Proofs.Sh

theorem kb_cells {W : World} {A : Option Addr} {n : Nat} {l : List F} (h : kb.C W A n l) (hn : 0 < n) : ∃ ad, A = some ad ∧ ∀ j u, (l.map bV)[j]? = some u → W.cell? (ad.add j) = some u := by
  obtain ⟨ad, hA, hc⟩ := h.2.2 hn
  refine ⟨ad, hA, fun j u hu => ?_⟩
  rw [List.getElem?_map] at hu
  obtain ⟨x, hx, rfl⟩ := Option.map_eq_some_iff.1 hu
  obtain ⟨c, _, hK, hcell⟩ := hc j x hx
  have hK' : c = [bV x] := hK
  subst hK'
  have := hcell 0 _ rfl
  simpa [kb, Kd.scalar] using this
theorem own_b {w0 W : World} {v : Value} {xs : List F} (h : Own kb 5 w0 W v xs) : W.ownsRow w0.heap.size 5 1 v xs.length (xs.map bV) := Kd.own_of_R h
theorem b_own {w0 W : World} {v : Value} {xs : List F} (h : W.ownsRow w0.heap.size 5 1 v xs.length (xs.map bV)) : Own kb 5 w0 W v xs := Kd.R_of_own h (fun _ _ => trivial)
section
variable {ops : Array Oper} {rest : List Oper} {o : Oper} {a : Act} {K : Act → World → Prop} {Q : Exit → Act → World → Prop}
/-- append(v, u...) of bytes, at the operation. -/
theorem wp_app_b {w0 W : World} (s x : Operand) (ho : o.op = .call { callee := .builtin .append, args := #[s, x], argTypes := #[40, 40] })
    (v : Value) (xs : List F) (u : Value) (ys : List F) (hs : a.eval s = v) (hx : a.eval x = u) (HO : Own kb 5 w0 W v xs) (HU : Rb W u ys) (hy : 0 < ys.length) (HB : Below w0.heap.size w0 W) (hl : xs.length + ys.length ≤ 1000000000)
    (h : ∀ v1 w1, Own kb 5 w0 w1 v1 (xs ++ ys) → Below w0.heap.size w0 w1 → W.grownBy w1 v.ownBlock → K (a.put o.dst v1) w1) : o.wp Try.prog a W K Q := by
  obtain ⟨A, c, rfl, hc, hr⟩ := HU
  obtain ⟨ad, rfl, hnews⟩ := kb_cells hr hy
  obtain ⟨i0, hi, hzz⟩ := Option.map_eq_some_iff.1 infoB
  simp only [Prod.mk.injEq] at hzz
  obtain ⟨hz0, hz1, hz2⟩ := hzz
  refine wp_append_lies W s x 40 ho w0.heap.size 5 i0 (.int .u8 0) 1 1 Try.underlying40 hi hz0 hz1 hz2 rfl Nat.one_pos v xs.length (xs.map bV) hs (own_b HO) ad ys.length c (ys.map bV) hx (by simp) hnews
    (fun u hu => by obtain ⟨x, _, rfl⟩ := List.mem_map.1 hu; rfl) hy (by unfold maxLen; omega) (by omega) HB.size _ rfl ?_
  intro g cap w1 hown hg _ _
  refine h _ w1 (b_own ?_) (HB.grown hg HB.size (fun k hk => (own_base (own_b HO) k hk))) hg
  rw [List.length_append, List.map_append]
  exact hown
theorem wpList_app_b {w0 W : World} (hgd : o.guard = none) (s x : Operand) (ho : o.op = .call { callee := .builtin .append, args := #[s, x], argTypes := #[40, 40] })
    (v : Value) (xs : List F) (u : Value) (ys : List F) (hs : a.eval s = v) (hx : a.eval x = u) (HO : Own kb 5 w0 W v xs) (HU : Rb W u ys) (hy : 0 < ys.length) (HB : Below w0.heap.size w0 W) (hl : xs.length + ys.length ≤ 1000000000)
    (h : ∀ v1 w1, Own kb 5 w0 w1 v1 (xs ++ ys) → Below w0.heap.size w0 w1 → W.grownBy w1 v.ownBlock → wpList Try.prog ops Q rest (a.put o.dst v1) w1) : wpList Try.prog ops Q (o :: rest) a W :=
  wpList_plain hgd fun _ hK => wp_app_b s x ho v xs u ys hs hx HO HU hy HB hl fun v1 w1 h1 h2 h3 => hK _ _ (h v1 w1 h1 h2 h3)
theorem step_app_b {E : Prop} {w0 W : World} (hgd : o.guard = none) (s x : Operand) (ho : o.op = .call { callee := .builtin .append, args := #[s, x], argTypes := #[40, 40] })
    (v : Value) (xs : List F) (u : Value) (ys : List F) (hs : a.eval s = v) (hx : a.eval x = u) (HO : Own kb 5 w0 W v xs) (HU : Rb W u ys) (hy : 0 < ys.length) (HB : Below w0.heap.size w0 W) (hl : xs.length + ys.length ≤ 1000000000)
    (h : ∀ v1 w1, Own kb 5 w0 w1 v1 (xs ++ ys) → Below w0.heap.size w0 w1 → W.grownBy w1 v.ownBlock → K (a.put o.dst v1) w1) :
    if Region.wanted o (yielded ops a.tmps) = true then Oper.wp Try.prog o a W K Q else E := by
  have hw : Region.wanted o (yielded ops a.tmps) = true := by simp [Region.wanted, hgd]
  rw [if_pos hw]
  exact wp_app_b s x ho v xs u ys hs hx HO HU hy HB hl h
end
theorem bu {w w' : World} (h : Below w.drew.heap.size w.drew w') : Below w.heap.size w w' := ⟨h.os, h.tape, h.output, h.size, h.block⟩
theorem buN {w w' : World} {n : Nat} (h : Below (w.drewN n).heap.size (w.drewN n) w') : Below w.heap.size w w' := ⟨h.os, h.tape, h.output, h.size, h.block⟩
theorem wrapI (x : Int) (h1 : -9223372036854775808 ≤ x) (h2 : x ≤ 9223372036854775807) : IntKind.i64.wrap x = x := by rw [IntKind.wrap_i64]; omega
theorem cells6 {w : World} {b : Nat} {t : TypeId} {x0 x1 x2 x3 x4 x5 : Value} (h : Blk w b #[x0, x1, x2, x3, x4, x5] t) :
    w.cell? ⟨b, 0, none⟩ = some x0 ∧ w.cell? ⟨b, 1, none⟩ = some x1 ∧ w.cell? ⟨b, 2, none⟩ = some x2 ∧ w.cell? ⟨b, 3, none⟩ = some x3 ∧ w.cell? ⟨b, 4, none⟩ = some x4 ∧ w.cell? ⟨b, 5, none⟩ = some x5 :=
  ⟨h.cell 0 _ rfl, h.cell 1 _ rfl, h.cell 2 _ rfl, h.cell 3 _ rfl, h.cell 4 _ rfl, h.cell 5 _ rfl⟩
end Go.Proofs.Ytijeabhfddaoaaa
