/- Small laws on slices that are read. -/
import Derived.Test.YtijeabhfddaoaaaK4
import Derived.Test.YtijeabhfddaoaaaPlan2
namespace Go.Proofs.Ytijeabhfddaoaaa
set_option linter.unusedVariables false
open Go.RowKit Go.Proofs.YtijeabhfddaoaaaW.PrintWords Go.Proofs.Sh

/-- What a slice says. -/
theorem rk_C {α : Type} {d : Kd α} {w : World} {A : Option Addr} {n c : Nat} {l : List α} (h : Rk d w (.slice A n c) l) : d.C w A l.length l := by
  obtain ⟨A', c', e, _, h⟩ := h
  injection e with e1 e2 e3
  subst e1
  exact h
theorem rk_len {α : Type} {d : Kd α} {w : World} {A : Option Addr} {n c : Nat} {l : List α} (h : Rk d w (.slice A n c) l) : n = l.length := by
  obtain ⟨A', c', e, _, h⟩ := h
  injection e with e1 e2 e3
theorem rk_cap {α : Type} {d : Kd α} {w : World} {A : Option Addr} {n c : Nat} {l : List α} (h : Rk d w (.slice A n c) l) : l.length ≤ c := by
  obtain ⟨A', c', e, hc, h⟩ := h
  injection e with e1 e2 e3
  subst e3
  exact hc
theorem rk_form {α : Type} {d : Kd α} {w : World} {v : Value} {l : List α} (h : Rk d w v l) : ∃ A c, v = .slice A l.length c := by
  obtain ⟨A, c, rfl, _, _⟩ := h
  exact ⟨A, c, rfl⟩
end Go.Proofs.Ytijeabhfddaoaaa
