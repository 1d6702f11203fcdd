/- Slices of acts (three numbers each), as an argument and as they are read. -/
import Derived.Test.YtacbenjfiabegaaRow3
import Derived.Test.YtacbenjfiabegaaTa
namespace Go.Proofs.Ytacbenjfiabegaa
set_option linter.unusedVariables false
open Go.ChangeShapes Go.WideShapes Go.ChangeAt Go.RowKit Go.Proofs.YtacbenjfiabegaaW.PrintWords Go.Proofs.Sh

abbrev Ac := Int × Int × Int
def aC (p : Ac) : List Value := [.int .i64 p.1, .int .i64 p.2.1, .int .i64 p.2.2]
def ka : Kd Ac where
  sz := 3
  E := []
  K := fun _ x cs => cs = aC x
  M := fun _ _ _ x cs => cs = aC x
  K_len := fun h => by rw [h]; rfl
  K_one := fun h u hu => by
    rw [h] at hu
    simp only [aC, List.mem_cons, List.not_mem_nil, or_false] at hu
    rcases hu with rfl | rfl | rfl <;> rfl
  K_below := fun _ h => h
  K_of_M := fun h => h
  M_mono := fun _ h => h
  M_bound := fun h => h
  M_move := fun _ h => h
  M_lower := fun _ h => h
section
variable {H : Type} {enc : TypeId × Value → H} {w : World} {base : Nat} {spare : Nat → Bool} {held : Bool}
theorem cells_at {w : World} {base : Nat} {a : Addr} {n : Nat} {cs : List Value} (h : w.cells? base a n = some cs) : cs.length = n ∧ ∀ j u, cs[j]? = some u → w.cell? (a.add j) = some u := by
  obtain ⟨h1, h2, h3⟩ := World.cells?_some h
  refine ⟨h2, fun j u hj => ?_⟩
  have hlt : j < n := by rw [← h2]; exact (List.getElem?_eq_some_iff.1 hj).1
  rw [h3 j hlt, hj]
theorem opens_many {P : Program} {α : Type} {t e : TypeId} (ht : P.underlying t = some (.slice e)) {d : Kd α} (hc : P.cellsOf e = d.sz) {Q : α → Prop}
    (he : ∀ (n : Nat) (c : List Value) (x : DataW H × List MemPlace), c.length = d.sz → DataW.trod enc P w base spare held n e c = some x → ∃ y, d.K w y c ∧ Q y)
    {fuel : Nat} {cs : List Value} {x : DataW H × List MemPlace} (h : DataW.trod enc P w base spare held fuel t cs = some x) : ∃ ys, (Kd.slice e d).K w ys cs ∧ ∀ y ∈ ys, Q y := by
  rcases Go.Deep.open_slice ht h with ⟨rfl, _⟩ | ⟨a, len, cap, m, n, D, Pl, rfl, _, hl, hm, hmm, _, hx⟩
  · exact ⟨[], ⟨none, 0, rfl, Nat.le_refl _, Kd.C_nil _ _⟩, fun y hy => by cases hy⟩
  · have hml : len ≤ m := by rw [hmm]; split <;> omega
    rw [hc] at hx
    have hE : ∀ i, i < len → ∃ y, (∃ c, c.length = d.sz ∧ d.K w y c ∧ ∀ j u, c[j]? = some u → w.cell? ((a.add (i * d.sz)).add j) = some u) ∧ Q y := fun i hi => by
      obtain ⟨c, h1, h2⟩ := hx i (by omega)
      obtain ⟨h3, h4⟩ := cells_at h1
      obtain ⟨y, hy, hq⟩ := he n c _ h3 h2
      exact ⟨y, ⟨c, h3, hy, h4⟩, hq⟩
    obtain ⟨ys, hys⟩ := collect (R := fun i y => (∃ c, c.length = d.sz ∧ d.K w y c ∧ ∀ j u, c[j]? = some u → w.cell? ((a.add (i * d.sz)).add j) = some u) ∧ Q y) len hE
    refine ⟨ys, ⟨some a, cap, by rw [hys.1], by omega, ⟨rfl, by rw [hys.1]; unfold maxLen at hm; omega, fun hp => ⟨a, rfl, fun j p hj => ?_⟩⟩⟩, fun y hy => ?_⟩
    · obtain ⟨c, h1, h2, h3⟩ := (hys.2 j p hj).1
      exact ⟨c, h1, h2, fun i u hu => by rw [← Go.Deep.add_add]; exact h3 i u hu⟩
    · obtain ⟨i, hi⟩ := List.getElem?_of_mem hy
      exact (hys.2 i y hi).2
theorem opens_act {fuel : Nat} {cs : List Value} {x : DataW H × List MemPlace} (hl : cs.length = 3) (h : DataW.trod enc Try.prog w base spare held fuel 67 cs = some x) : ∃ y : Ac, ka.K w y cs ∧ True := by
  match cs, hl with
  | [c0, c1, c2], _ =>
    obtain ⟨m0, g0, f0⟩ := cells_struct Try.underlying67 h 0 _ rfl (by kernel_rfl) c0 _ rfl
    obtain ⟨m1, g1, f1⟩ := cells_struct Try.underlying67 h 1 _ rfl (by kernel_rfl) c1 _ rfl
    obtain ⟨m2, g2, f2⟩ := cells_struct Try.underlying67 h 2 _ rfl (by kernel_rfl) c2 _ rfl
    obtain ⟨y0, K0, _⟩ := opens_int Try.underlying3 f0
    obtain ⟨y1, K1, _⟩ := opens_int Try.underlying3 f1
    obtain ⟨y2, K2, _⟩ := opens_int Try.underlying3 f2
    obtain rfl := one_int K0
    obtain rfl := one_int K1
    obtain rfl := one_int K2
    exact ⟨(y0, y1, y2), rfl, trivial⟩
end
/-- The cells of an act. -/
theorem act_at {w : World} {A : Option Addr} {n c : Nat} {l : List Ac} (h : Rk ka w (.slice A n c) l) (k : Nat) (hk : k < l.length) :
    ∃ ad, A = some ad ∧ w.cell? (ad.add (k * 3)) = some (.int .i64 (l.getD k (0, 0, 0)).1) ∧ w.cell? (ad.add (k * 3 + 1)) = some (.int .i64 (l.getD k (0, 0, 0)).2.1) ∧ w.cell? (ad.add (k * 3 + 2)) = some (.int .i64 (l.getD k (0, 0, 0)).2.2) := by
  have hr := rk_C h
  obtain ⟨ad, rfl, hc⟩ := hr.2.2 (by omega)
  have hg : l[k]? = some (l.getD k (0, 0, 0)) := by rw [List.getD_eq_getElem?_getD, List.getElem?_eq_getElem hk]; rfl
  obtain ⟨cs, _, h1, h2⟩ := hc k _ hg
  have h1 : cs = aC _ := h1
  subst h1
  exact ⟨ad, rfl, h2 0 _ rfl, h2 1 _ rfl, h2 2 _ rfl⟩
end Go.Proofs.Ytacbenjfiabegaa
