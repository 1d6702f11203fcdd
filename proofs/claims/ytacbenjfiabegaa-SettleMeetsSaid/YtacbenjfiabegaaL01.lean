/- The walks of the laws of layer 1. -/
import Derived.Test.YtacbenjfiabegaaGf
import Derived.Test.YtacbenjfiabegaaR01
namespace Go.Proofs.Ytacbenjfiabegaa
open Go.RowKit Go.Proofs.YtacbenjfiabegaaW.PrintWords Go.Proofs.Sh

theorem n_eq0 {x : F} (h : x = 0) : ((x.n : Int) == 0) = true ∧ ((x.n : Int) != 0) = false := by subst h; exact ⟨rfl, rfl⟩
theorem n_ne0 {x : F} (h : x ≠ 0) : ((x.n : Int) == 0) = false ∧ ((x.n : Int) != 0) = true := by
  have := n_beq_zero h
  exact ⟨this, by simp [bne, this]⟩
theorem mul_beq (x y : F) : (((x * y).n : Int) == 0) = (((x.n : Int) == 0) || ((y.n : Int) == 0)) := by
  by_cases hx : x = 0
  · rw [(n_eq0 hx).1, (n_eq0 (by rw [hx, F.zero_mul])).1]; rfl
  by_cases hy : y = 0
  · rw [(n_eq0 hy).1, (n_eq0 (by rw [hy, F.mul_zero])).1]; simp
  rw [(n_ne0 hx).1, (n_ne0 hy).1, (n_ne0 (F.mul_ne hx hy)).1]; rfl
theorem n_cases (x : F) : ∃ b : Bool, ((x.n : Int) == 0) = b ∧ ((x.n : Int) != 0) = !b ∧ (b = false → x ≠ 0) := by
  by_cases h : x = 0
  · exact ⟨true, (n_eq0 h).1, (n_eq0 h).2, fun e => by cases e⟩
  · exact ⟨false, (n_ne0 h).1, (n_ne0 h).2, fun _ => h⟩
end Go.Proofs.Ytacbenjfiabegaa
