/- Lists of bytes: sums of products, polynomials. Plain, no Go in sight. -/
import Derived.Test.YtijeabhfddaoaaaM1
namespace Go.Proofs.Sh
open F

/-- The sum of the products. -/
def dot : List F → List F → F
  | a :: l, b :: m => a * b + dot l m
  | _, _ => 0
theorem dot_nil_r (l : List F) : dot l [] = 0 := by cases l <;> rfl
theorem dot_append : ∀ (l m l' m' : List F), l.length = m.length → dot (l ++ l') (m ++ m') = dot l m + dot l' m'
  | [], [], _, _, _ => by simp [dot, F.zero_add]
  | a :: l, b :: m, l', m', h => by
    simp only [List.cons_append, dot]
    rw [dot_append l m l' m' (by simpa using h), F.add_assoc]
theorem dot_take (l m : List F) (k : Nat) (h1 : k < l.length) (h2 : k < m.length) : dot (l.take (k + 1)) (m.take (k + 1)) = dot (l.take k) (m.take k) + l.getD k 0 * m.getD k 0 := by
  rw [List.take_succ_eq_append_getElem h1, List.take_succ_eq_append_getElem h2, dot_append _ _ _ _ (by simp; omega)]
  simp [dot, F.add_zero, List.getD_eq_getElem?_getD, h1, h2]
theorem dot_take_min : ∀ (l m : List F) (k : Nat), (l.length ≤ k ∨ m.length ≤ k) → dot (l.take k) (m.take k) = dot l m
  | [], m, k, _ => by simp [dot]
  | a :: l, [], k, _ => by simp [dot_nil_r]
  | a :: l, b :: m, 0, h => by simp at h
  | a :: l, b :: m, k + 1, h => by
    simp only [List.take_succ_cons, dot]
    rw [dot_take_min l m k (by simpa using h)]
end Go.Proofs.Sh
