/- append(v, ys...) of rows of bytes and of numbers; ContainsFunc of numbers. -/
import Derived.Test.YtacbenjfiabegaaK6
import Derived.Test.YtacbenjfiabegaaSl
namespace Go.Proofs.Ytacbenjfiabegaa
set_option linter.unusedVariables false
open Go.RowKit Go.Proofs.YtacbenjfiabegaaW.PrintWords Go.Proofs.Sh

section
variable {P : Program} {ops : Array Oper} {rest : List Oper} {o : Oper} {a : Act} {K : Act → World → Prop} {Q : Exit → Act → World → Prop} {α : Type} {E : Prop}
theorem app_many {enc : α → Value} {h1 : ∀ x, (enc x).oneCell' = true} {w0 W : World} (hgd : o.guard = none) (s x : Operand) (t e : TypeId) (z : Value) (bytes : Nat)
    (ho : o.op = .call { callee := .builtin .append, args := #[s, x], argTypes := #[t, t] })
    (ht : P.underlying t = some (.slice e)) (hinfo : (P.info? e).map (fun i => (i.zero, i.size, i.bytes)) = some (some z, 1, bytes)) (hz : z.cells.size = 1) (hb0 : 0 < bytes)
    (v : Value) (xs ys : List α) (u : Value) (hs : a.eval s = v) (hx : a.eval x = u)
    (HO : Own (Kd.scalar enc h1) e w0 W v xs) (HR : Rk (Kd.scalar enc h1) W u ys) (HB : Below w0.heap.size w0 W) (hl : (xs.length + ys.length) * bytes ≤ 140737488355328)
    (h : ∀ v1 w1, Own (Kd.scalar enc h1) e w0 w1 v1 (xs ++ ys) → Below w0.heap.size w0 w1 → W.grownBy w1 v.ownBlock → wpList P ops Q rest (a.put o.dst v1) w1) :
    wpList P ops Q (o :: rest) a W := by
  obtain ⟨A, c, rfl, hc, hr⟩ := HR
  exact Kd.R_append_rows (Kd.scalar enc h1) (Rr := (Kd.scalar enc h1).K W) (w0 := w0) w0.heap.size hgd s x t e z bytes ho ht hinfo hz Nat.one_pos hb0 v xs ys A ys.length c T_ (fun _ => False) hs hx HO hr (fun _ _ hk => hk) (fun _ hk => hk.elim) (fun _ _ => trivial) HB HB.size hl
    (fun v1 w1 ho' hb' hg' _ => h v1 w1 ho' hb' hg')
theorem step_app_many {enc : α → Value} {h1 : ∀ x, (enc x).oneCell' = true} {w0 W : World} (hgd : o.guard = none) (s x : Operand) (t e : TypeId) (z : Value) (bytes : Nat)
    (ho : o.op = .call { callee := .builtin .append, args := #[s, x], argTypes := #[t, t] })
    (ht : P.underlying t = some (.slice e)) (hinfo : (P.info? e).map (fun i => (i.zero, i.size, i.bytes)) = some (some z, 1, bytes)) (hz : z.cells.size = 1) (hb0 : 0 < bytes)
    (v : Value) (xs ys : List α) (u : Value) (hs : a.eval s = v) (hx : a.eval x = u)
    (HO : Own (Kd.scalar enc h1) e w0 W v xs) (HR : Rk (Kd.scalar enc h1) W u ys) (HB : Below w0.heap.size w0 W) (hl : (xs.length + ys.length) * bytes ≤ 140737488355328)
    (h : ∀ v1 w1, Own (Kd.scalar enc h1) e w0 w1 v1 (xs ++ ys) → Below w0.heap.size w0 w1 → W.grownBy w1 v.ownBlock → K (a.put o.dst v1) w1) :
    if Region.wanted o (yielded ops a.tmps) = true then Oper.wp P o a W K Q else E := by
  obtain ⟨A, c, rfl, hc, hr⟩ := HR
  have hw : Region.wanted o (yielded ops a.tmps) = true := by simp [Region.wanted, hgd]
  have := Kd.R_append_rows_step (Kc := K) (Q := Q) (Kd.scalar enc h1) (Rr := (Kd.scalar enc h1).K W) (w0 := w0) w0.heap.size hw s x t e z bytes ho ht hinfo hz Nat.one_pos hb0 v xs ys A ys.length c T_ (fun _ => False) hs hx HO hr (fun _ _ hk => hk) (fun _ hk => hk.elim) (fun _ _ => trivial) HB HB.size hl
    (fun v1 w1 ho' hb' hg' _ => h v1 w1 ho' hb' hg')
  rw [if_pos hw] at this ⊢
  exact this
end
theorem step_app_yy {ops : Array Oper} {o : Oper} {a : Act} {K : Act → World → Prop} {Q : Exit → Act → World → Prop} {E : Prop} {w0 W : World} (hgd : o.guard = none) (s x : Operand)
    (ho : o.op = .call { callee := .builtin .append, args := #[s, x], argTypes := #[22, 22] })
    (v : Value) (xs ys : List F) (u : Value) (hs : a.eval s = v) (hx : a.eval x = u)
    (HO : Ob w0 W v xs) (HR : Rb W u ys) (HB : Below w0.heap.size w0 W) (hl : xs.length + ys.length ≤ 1000000000)
    (h : ∀ v1 w1, Ob w0 w1 v1 (xs ++ ys) → Below w0.heap.size w0 w1 → W.grownBy w1 v.ownBlock → K (a.put o.dst v1) w1) :
    if Region.wanted o (yielded ops a.tmps) = true then Oper.wp Try.prog o a W K Q else E :=
  step_app_many hgd s x 22 5 (.int .u8 0) 1 ho Try.underlying22 infoB rfl Nat.one_pos v xs ys u hs hx HO HR HB (by omega) h
/-- A literal '[]int{..}' is a row of one's own. -/
theorem lit_ownI {w0 W : World} (l : List Int) (cs : Array Value) (h : cs.toList = l.map (Value.int .i64)) (n : Nat) (hn : n = l.length) (hm : n ≤ 9223372036854775807) (hB : w0.heap.size ≤ W.heap.size) :
    Oi w0 (W.alloc (.cells cs 3)) (.slice (some ⟨W.heap.size, 0, none⟩) n n) l := by
  subst hn
  have ho := World.ownsRow_lit (base := w0.heap.size) (e := 3) (size := 1) W cs l.length hB (by simpa [maxLen] using hm) (by rw [Nat.mul_one, ← Array.length_toList, h, List.length_map])
  rw [h] at ho
  exact Kd.R_of_own ho (fun _ _ => trivial)
theorem oi_own {w0 W : World} {v : Value} {xs : List Int} (h : Oi w0 W v xs) : W.ownsRow w0.heap.size 3 1 v xs.length (xs.map (Value.int .i64)) := Kd.own_of_R h
theorem own_oi {w0 W : World} {v : Value} {xs : List Int} (h : W.ownsRow w0.heap.size 3 1 v xs.length (xs.map (Value.int .i64))) : Oi w0 W v xs := Kd.R_of_own h (fun _ _ => trivial)
theorem Oi.form {w0 w : World} {v : Value} {l : List Int} (h : Oi w0 w v l) (hl : 0 < l.length) : ∃ g cap, v = .slice (some ⟨g, 0, none⟩) l.length cap ∧ w0.heap.size ≤ g ∧ g < w.heap.size := by
  obtain ⟨g, cap, hv, hb, hlt⟩ := (oi_own h).form hl
  exact ⟨g, cap, hv, hb, hlt⟩
theorem oi_lt {w0 w : World} {v : Value} {l : List Int} (h : Oi w0 w v l) {g : Nat} (hk : v.ownBlock = some g) : g < w.heap.size := by
  obtain ⟨cells, hc⟩ := own_typed (oi_own h) g hk
  exact blk_lt hc
theorem oi_grown {w0 w w1 : World} {g n c : Nat} {u : Option Nat} {l : List Int} (h : Oi w0 w (.slice (some ⟨g, 0, none⟩) n c) l) (hg : w.grownBy w1 u) (hne : u ≠ some g) : Oi w0 w1 (.slice (some ⟨g, 0, none⟩) n c) l :=
  own_oi (own_other (oi_own h) hg (.inr (by simpa [Value.ownBlock] using fun e => hne e.symm)))
/-- append(v, i), with where it may stand. -/
theorem app_int {ops : Array Oper} {rest : List Oper} {o : Oper} {a : Act} {Q : Exit → Act → World → Prop} {w0 W : World} (hgd : o.guard = none) (s x : Operand)
    (ho : o.op = .call { callee := .builtin .append, args := #[s, x], argTypes := #[53, 53] })
    (v : Value) (xs : List Int) (y : Int) (hs : a.eval s = v) (hx : a.eval x = .slice (some ⟨W.heap.size, 0, none⟩) 1 1)
    (HO : Oi w0 W v xs) (HB : Below w0.heap.size w0 W) (hl : xs.length ≤ 1000000)
    (h : ∀ v1 w1, Oi w0 w1 v1 (xs ++ [y]) → Below w0.heap.size w0 w1 → W.grownBy w1 v.ownBlock → (∀ g, g < W.heap.size → v.ownBlock ≠ some g → v1.ownBlock ≠ some g) → wpList Try.prog ops Q rest (a.put o.dst v1) w1) :
    wpList Try.prog ops Q (o :: rest) a (W.alloc (.cells #[.int .i64 y] 3)) := by
  refine Kd.R_append (Kd.int .i64) (w0 := w0) w0.heap.size hgd s x 53 3 (.int .i64 0) 8 ho Try.underlying53 infoI rfl Nat.one_pos (by decide) v xs y [.int .i64 y] T_ (fun _ => False) hs hx rfl (fun _ hk => hk.elim) (fun _ _ => trivial) HO HB HB.size (by omega) ?_
  intro v1 w1 ho' hb' hg' hat
  refine h v1 w1 ho' hb' hg' (fun g hg hne => ?_)
  rcases hat with e | ⟨b, e, hb⟩
  · rw [e]; exact hne
  · rw [e]
    intro e2
    injection e2 with e2
    omega
end Go.Proofs.Ytacbenjfiabegaa
