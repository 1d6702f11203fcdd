/- Opening the laws' arguments: what can be read as data reads, in memory, as lists of bytes, numbers and bools. -/
import Derived.Test.YtacbenjfiabegaaK4
import Derived.Test.YtacbenjfiabegaaHead
import Derived.ProofKit
import Derived.OpenShut
import Derived.ChangeOld
import Derived.Below
import Derived.Deep.Slices
namespace Go.Proofs.Ytacbenjfiabegaa
open Go.ChangeShapes Go.WideShapes Go.ChangeAt Go.RowKit Go.Proofs.YtacbenjfiabegaaW.PrintWords Go.Proofs.Sh

/-- Numbers within int's bounds. -/
def I64 (n : Int) : Prop := -9223372036854775808 ≤ n ∧ n ≤ 9223372036854775807
section
variable {H : Type} {enc : TypeId × Value → H} {P : Program} {w : World} {base : Nat} {spare : Nat → Bool} {held : Bool}
theorem opens_byte {t : TypeId} (ht : P.underlying t = some (.int .u8)) {fuel : Nat} {cs : List Value} {x : DataW H × List MemPlace} (h : DataW.trod enc P w base spare held fuel t cs = some x) : ∃ y, kb.K w y cs ∧ True := by
  obtain ⟨n, rfl, _, hw⟩ := DataW.trod_int ht h
  obtain ⟨y, rfl⟩ := F_of_int hw
  exact ⟨y, rfl, trivial⟩
theorem opens_int {t : TypeId} (ht : P.underlying t = some (.int .i64)) {fuel : Nat} {cs : List Value} {x : DataW H × List MemPlace} (h : DataW.trod enc P w base spare held fuel t cs = some x) : ∃ y, (Kd.int .i64).K w y cs ∧ I64 y := by
  obtain ⟨n, rfl, _, hw⟩ := DataW.trod_int ht h
  have hb : -9223372036854775808 ≤ n ∧ n ≤ 9223372036854775807 := by simpa [Lit.wf, IntKind.min, IntKind.max, IntKind.signed, IntKind.bits] using hw
  exact ⟨n, rfl, hb⟩
theorem opens_bool {t : TypeId} (ht : P.underlying t = some .bool) {fuel : Nat} {cs : List Value} {x : DataW H × List MemPlace} (h : DataW.trod enc P w base spare held fuel t cs = some x) : ∃ y, Kd.bool.K w y cs ∧ True := by
  obtain ⟨n, rfl, _⟩ := DataW.trod_bool ht h
  exact ⟨n, rfl, trivial⟩
theorem collect {α : Type} {R : Nat → α → Prop} : ∀ (len : Nat), (∀ i, i < len → ∃ y, R i y) → ∃ ys : List α, ys.length = len ∧ ∀ i y, ys[i]? = some y → R i y
  | 0, _ => ⟨[], rfl, fun i y hy => by simp at hy⟩
  | k + 1, hE => by
    obtain ⟨ys, h1, h2⟩ := collect k (fun i hi => hE i (by omega))
    obtain ⟨y, hy⟩ := hE k (by omega)
    refine ⟨ys ++ [y], by simp [h1], fun i z hz => ?_⟩
    rcases Nat.lt_or_ge i k with hi | hi
    · rw [List.getElem?_append_left (by omega)] at hz
      exact h2 i z hz
    · have hik : i = k := by
        have := (List.getElem?_eq_some_iff.1 hz).1
        rw [List.length_append, List.length_singleton] at this
        omega
      subst hik
      rw [List.getElem?_append_right (by omega), h1, Nat.sub_self] at hz
      have : y = z := by simpa using hz
      subst this
      exact hy
theorem opens_slice {α : Type} {t e : TypeId} (ht : P.underlying t = some (.slice e)) (hc : P.cellsOf e = 1) {d : Kd α} (hsz : d.sz = 1) {Q : α → Prop}
    (he : ∀ (n : Nat) (c : List Value) (x : DataW H × List MemPlace), DataW.trod enc P w base spare held n e c = some x → ∃ y, d.K w y c ∧ Q y)
    {fuel : Nat} {cs : List Value} {x : DataW H × List MemPlace} (h : DataW.trod enc P w base spare held fuel t cs = some x) : ∃ ys, (Kd.slice e d).K w ys cs ∧ ∀ y ∈ ys, Q y := by
  rcases Go.Deep.open_slice1 ht hc h with ⟨rfl, _⟩ | ⟨a, len, cap, m, n, V, D, Pl, rfl, _, hl, hm, hmm, _, hx⟩
  · exact ⟨[], ⟨none, 0, rfl, Nat.le_refl _, Kd.C_nil _ _⟩, fun y hy => by cases hy⟩
  · have hml : len ≤ m := by rw [hmm]; split <;> omega
    have hE : ∀ i, i < len → ∃ y, d.K w y [V i] ∧ Q y := fun i hi => he n _ _ (hx i (by omega)).2
    obtain ⟨ys, hys⟩ := collect (R := fun i y => d.K w y [V i] ∧ Q y) len hE
    refine ⟨ys, ⟨some a, cap, by rw [hys.1], by omega, ⟨rfl, by rw [hys.1]; unfold maxLen at hm; omega, fun hp => ⟨a, rfl, fun j p hj => ?_⟩⟩⟩, fun y hy => ?_⟩
    · have hjl : j < len := by have := (List.getElem?_eq_some_iff.1 hj).1; omega
      refine ⟨[V j], by rw [hsz]; rfl, (hys.2 j p hj).1, fun i u hu => ?_⟩
      cases i with
      | zero =>
        have hv : V j = u := by simpa using hu
        rw [hsz, Nat.mul_one, Nat.add_zero, ← hv]
        exact (hx j (by omega)).1
      | succ i => simp at hu
    · obtain ⟨i, hi⟩ := List.getElem?_of_mem hy
      exact (hys.2 i y hi).2
/-! ### arguments of several cells -/
theorem cells_struct {fs : Array Field} {t : TypeId} (ht : P.underlying t = some (.struct fs)) {fuel : Nat} {cs : List Value} {x : DataW H × List MemPlace} (h : DataW.trod enc P w base spare held fuel t cs = some x)
    (i : Nat) (f : Field) (hf : fs[i]? = some f) (hc : P.cellsOf f.type = 1) (c : Value) (r : List Value) (ho : cs.drop f.offset = c :: r) : ∃ m y, DataW.trod enc P w base spare held m f.type [c] = some y := by
  obtain ⟨xs, n, _, _, _, hl, hx⟩ := DataW.trod_struct ht h
  have hi : i < xs.length := by rw [hl]; exact (Array.getElem?_eq_some_iff.1 hf).1
  have := hx i f hf
  rw [hc, ho, List.getElem?_eq_getElem hi] at this
  exact ⟨n, _, this⟩
theorem cells_array {n : Nat} {e t : TypeId} (ht : P.underlying t = some (.array n e)) {fuel : Nat} {cs : List Value} {x : DataW H × List MemPlace} (h : DataW.trod enc P w base spare held fuel t cs = some x)
    (i : Nat) (hi : i < n) (hc : P.cellsOf e = 1) (c : Value) (r : List Value) (ho : cs.drop i = c :: r) : ∃ m y, DataW.trod enc P w base spare held m e [c] = some y := by
  obtain ⟨xs, m, _, _, _, hl, hx⟩ := DataW.trod_array ht h
  have := hx i hi
  rw [hc, Nat.mul_one, ho, List.getElem?_eq_getElem (by omega)] at this
  exact ⟨m, _, this⟩
theorem okWide_array {n : Nat} {e t : TypeId} {r : Reach} {v : Value} (ht : P.underlying t = some (.array n e)) (h : Value.okWide P w r base t v) : ∃ cs, v = .agg cs ∧ cs.size = P.cellsOf t := by
  simp only [Value.okWide, ht] at h
  obtain ⟨cs, h1, h2, _⟩ := h
  exact ⟨cs, h1, h2⟩
theorem one_int {k : IntKind} {y : Int} {c : Value} (h : (Kd.int k).K w y [c]) : c = .int k y := (List.cons.inj h).1
theorem one_byte {y : F} {c : Value} (h : kb.K w y [c]) : c = .int .u8 (y.n : Int) := (List.cons.inj h).1
theorem one_bool {y : Bool} {c : Value} (h : Kd.bool.K w y [c]) : c = .bool y := (List.cons.inj h).1
theorem one_slice {α : Type} {d : Kd α} {e : Nat} {ys : List α} {c : Value} (h : (Kd.slice e d).K w ys [c]) : Rk d w c ys := by
  obtain ⟨A, n, hc, hl, hr⟩ := h
  exact ⟨A, n, (List.cons.inj hc).1, hl, hr⟩
end
theorem arr2 {cs : Array Value} (h : cs.size = 2) : ∃ a b, cs = #[a, b] := by
  obtain ⟨l⟩ := cs
  match l, h with
  | [a, b], _ => exact ⟨a, b, rfl⟩
theorem arr3 {cs : Array Value} (h : cs.size = 3) : ∃ a b c, cs = #[a, b, c] := by
  obtain ⟨l⟩ := cs
  match l, h with
  | [a, b, c], _ => exact ⟨a, b, c, rfl⟩
theorem arr4 {cs : Array Value} (h : cs.size = 4) : ∃ a b c d, cs = #[a, b, c, d] := by
  obtain ⟨l⟩ := cs
  match l, h with
  | [a, b, c, d], _ => exact ⟨a, b, c, d, rfl⟩
theorem arr6 {cs : Array Value} (h : cs.size = 6) : ∃ a b c d e f, cs = #[a, b, c, d, e, f] := by
  obtain ⟨l⟩ := cs
  match l, h with
  | [a, b, c, d, e, f], _ => exact ⟨a, b, c, d, e, f, rfl⟩
end Go.Proofs.Ytacbenjfiabegaa
