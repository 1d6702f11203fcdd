/- Plain laws of dealing: shares add up. -/
import Derived.Test.YtijeabhfddaoaaaM12
namespace Go.Proofs.Sh
namespace F
/-- Bytes, and others, one by one, as long as the first ones. -/
def xorL (a b : List F) : List F := (List.range a.length).map fun i => a.getD i 0 + b.getD i 0
theorem xorL_len (a b : List F) : (xorL a b).length = a.length := by simp [xorL]
theorem xorL_at (a b : List F) (i : Nat) (h : i < a.length) : (xorL a b).getD i 0 = a.getD i 0 + b.getD i 0 := by simp [xorL, List.getD_eq_getElem?_getD, h]
theorem getD_out (a : List F) (i : Nat) (h : a.length ≤ i) : a.getD i 0 = 0 := by rw [List.getD_eq_getElem?_getD, List.getElem?_eq_none h]; rfl
theorem rowOf_xor (L : Nat) (a b : List F) (hl : a.length = b.length) (j : Nat) : rowOf L (xorL a b) j = padd (rowOf L a j) (rowOf L b j) := by
  apply ext_at
  · rw [rowOf_len, padd_len, rowOf_len, rowOf_len, Nat.max_self]
  · intro k hk
    rw [rowOf_len] at hk
    rw [padd_at]
    show (rowOf L (xorL a b) j).getD k 0 = (rowOf L a j).getD k 0 + (rowOf L b j).getD k 0
    rw [rowOf_at _ _ _ _ hk, rowOf_at _ _ _ _ hk, rowOf_at _ _ _ _ hk]
    by_cases h : j * L + k < a.length
    · rw [xorL_at _ _ _ h]
    · rw [getD_out _ _ (by rw [xorL_len]; omega), getD_out a _ (by omega), getD_out b _ (by omega), add_zero]
theorem tp_xor (T n : Nat) (s t : List F) (j : Nat) (hj : (j + 1) * T ≤ n) (h1 : n ≤ s.length) (h2 : n ≤ t.length) : tp T (xorL (s.take n) (t.take n)) j = padd (tp T s j) (tp T t j) := by
  have hle : j * T + T ≤ n := by rw [Nat.add_mul, Nat.one_mul] at hj; exact hj
  have hln : (xorL (s.take n) (t.take n)).length = n := by rw [xorL_len, List.length_take]; omega
  apply ext_at
  · rw [padd_len, tp_len _ _ _ (by omega), tp_len _ _ _ (by omega), tp_len _ _ _ (by omega), Nat.max_self]
  · intro k hk
    rw [tp_len _ _ _ (by omega)] at hk
    rw [padd_at]
    show (tp T (xorL (s.take n) (t.take n)) j).getD k 0 = (tp T s j).getD k 0 + (tp T t j).getD k 0
    rw [tp_at _ _ _ _ hk, tp_at _ _ _ _ hk, tp_at _ _ _ _ hk, xorL_at _ _ _ (by rw [List.length_take]; omega), take_getD s 0 n _ (by omega), take_getD t 0 n _ (by omega)]
theorem dot_padd (l m m' : List F) : dot l (padd m m') = dot l m + dot l m' := by
  rw [dot_sm, dot_sm, dot_sm, ← sm_add]
  refine sm_congr fun i _ => ?_
  show _ * at_ (padd m m') i = _ * at_ m i + _ * at_ m' i
  rw [padd_at, mul_add]
/-- Stripes' polynomials add up. -/
theorem dpoly_add (sec r r' t t' : List F) (x : F) (h : sec.length < 255) : ev x (dpoly sec (padd r r') (padd t t')) = ev x (dpoly sec r t) + ev x (dpoly sec r' t') := by
  rw [ev_dpoly _ _ _ _ h, ev_dpoly _ _ _ _ h, ev_dpoly _ _ _ _ h, dot_padd, ev_padd, mul_add]
  ac_rfl
end F
end Go.Proofs.Sh
