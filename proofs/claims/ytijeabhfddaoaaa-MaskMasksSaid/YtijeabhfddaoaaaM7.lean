/- Plain: stripes, sums of lists, shares: no Go in sight. -/
import Derived.Test.YtijeabhfddaoaaaM3
import Derived.Test.YtijeabhfddaoaaaM5
namespace Go.Proofs.Sh
set_option linter.unusedVariables false
namespace F
/-! ### stripes -/
/-- The k-th stripe of a blob; the first n of them. -/
def rowOf (L : Nat) (b : List F) (k : Nat) : List F := (List.range L).map fun j => b.getD (k * L + j) 0
def cutOf (L : Nat) (b : List F) (n : Nat) : List (List F) := (List.range n).map (rowOf L b)
/-- How many stripes so many bytes have. -/
def nS (L size : Nat) : Nat := (size + L - 1) / L
theorem rowOf_len (L : Nat) (b : List F) (k : Nat) : (rowOf L b k).length = L := by simp [rowOf]
theorem cutOf_len (L : Nat) (b : List F) (n : Nat) : (cutOf L b n).length = n := by simp [cutOf]
theorem rowOf_at (L : Nat) (b : List F) (k j : Nat) (h : j < L) : (rowOf L b k).getD j 0 = b.getD (k * L + j) 0 := by simp [rowOf, List.getD_eq_getElem?_getD, h]
theorem cutOf_at (L : Nat) (b : List F) (n k : Nat) (h : k < n) : (cutOf L b n).getD k [] = rowOf L b k := by simp [cutOf, List.getD_eq_getElem?_getD, h]
theorem cutOf_snoc (L : Nat) (b : List F) (n : Nat) : cutOf L b (n + 1) = cutOf L b n ++ [rowOf L b n] := by simp [cutOf, List.range_succ]
theorem nS_le (L size : Nat) (h : 0 < L) : size ≤ nS L size * L := by
  have h1 := Nat.div_add_mod (size + L - 1) L
  have h2 := Nat.mod_lt (size + L - 1) h
  unfold nS
  rw [Nat.mul_comm]
  generalize L * ((size + L - 1) / L) = z at *
  omega
theorem nS_lt (L size k : Nat) (h : 0 < L) : k < nS L size ↔ k * L < size := by
  unfold nS
  rw [Nat.lt_iff_add_one_le, Nat.le_div_iff_mul_le h, Nat.add_mul]
  omega
/-- A part, and zeros, is a row. -/
theorem part_row (L : Nat) (b : List F) (k : Nat) : (b.drop (k * L)).take L ++ List.replicate (L - ((b.drop (k * L)).take L).length) 0 = rowOf L b k := by
  apply ext_at
  · simp [rowOf]; omega
  · intro j hj
    have hjL : j < L := by simp at hj; omega
    show _ = (rowOf L b k).getD j 0
    rw [rowOf_at _ _ _ _ hjL]
    simp only [at_, List.getD_eq_getElem?_getD]
    by_cases h : j < ((b.drop (k * L)).take L).length
    · rw [List.getElem?_append_left h, List.getElem?_take_of_lt hjL, List.getElem?_drop]
    · rw [List.getElem?_append_right (by omega), List.getElem?_replicate]
      have : b.length ≤ k * L + j := by simp at h; omega
      rw [List.getElem?_eq_none this]
      split <;> rfl
/-! ### joined stripes -/
def joinOf (L : Nat) (l : List (List F)) (n : Nat) : List F := (List.range n).map fun i => (l.getD (i / L) []).getD (i % L) 0
theorem joinOf_len (L : Nat) (l : List (List F)) (n : Nat) : (joinOf L l n).length = n := by simp [joinOf]
theorem joinOf_at (L : Nat) (l : List (List F)) (n i : Nat) (h : i < n) : (joinOf L l n).getD i 0 = (l.getD (i / L) []).getD (i % L) 0 := by simp [joinOf, List.getD_eq_getElem?_getD, h]
theorem flat_at (L : Nat) (hL : 0 < L) : ∀ (l : List (List F)), (∀ r ∈ l, r.length = L) → ∀ i, i < l.length * L → l.flatten.getD i 0 = (l.getD (i / L) []).getD (i % L) 0
  | [], _, i, hi => by simp at hi
  | r :: l, h, i, hi => by
    have hr := h r (List.mem_cons_self ..)
    rw [List.flatten_cons]
    by_cases e : i < L
    · rw [Nat.div_eq_of_lt e, Nat.mod_eq_of_lt e]
      simp only [List.getD_eq_getElem?_getD]
      rw [List.getElem?_append_left (by omega)]
      rfl
    · have ih := flat_at L hL l (fun r hr => h r (List.mem_cons_of_mem _ hr)) (i - L) (by rw [List.length_cons, Nat.add_mul] at hi; omega)
      have e1 : i / L = (i - L) / L + 1 := by rw [Nat.div_eq i L, if_pos ⟨hL, by omega⟩]
      have e2 : i % L = (i - L) % L := by rw [Nat.mod_eq_sub_mod (by omega)]
      rw [e1, e2]
      simp only [List.getD_eq_getElem?_getD] at ih ⊢
      rw [List.getElem?_append_right (by omega), hr, ih]
      rfl
theorem flat_len (L : Nat) : ∀ (l : List (List F)), (∀ r ∈ l, r.length = L) → l.flatten.length = l.length * L
  | [], _ => by simp
  | r :: l, h => by
    rw [List.flatten_cons, List.length_append, flat_len L l (fun r hr => h r (List.mem_cons_of_mem _ hr)), h r (List.mem_cons_self ..), List.length_cons, Nat.add_mul]
    omega
theorem flat_take (L : Nat) (hL : 0 < L) (l : List (List F)) (h : ∀ r ∈ l, r.length = L) (n : Nat) (hn : n ≤ l.length * L) : l.flatten.take n = joinOf L l n := by
  apply ext_at
  · rw [List.length_take, flat_len L l h, joinOf_len]; omega
  · intro i hi
    rw [List.length_take] at hi
    rw [at_take, if_pos (by omega)]
    show l.flatten.getD i 0 = (joinOf L l n).getD i 0
    rw [flat_at L hL l h i (by omega), joinOf_at _ _ _ _ (by omega)]
theorem join_cut (L : Nat) (hL : 0 < L) (b : List F) (n : Nat) (h : b.length ≤ n * L) : joinOf L (cutOf L b n) b.length = b := by
  apply ext_at (by rw [joinOf_len])
  intro i hi
  rw [joinOf_len] at hi
  show (joinOf L (cutOf L b n) b.length).getD i 0 = b.getD i 0
  rw [joinOf_at _ _ _ _ hi, cutOf_at _ _ _ _ ((Nat.div_lt_iff_lt_mul hL).2 (by omega)), rowOf_at _ _ _ _ (Nat.mod_lt _ hL), Nat.mul_comm, Nat.div_add_mod]
/-! ### sums of lists -/
abbrev zadd (a b : List F) : List F := List.zipWith (· + ·) a b
theorem zadd_len (a b : List F) : (zadd a b).length = min a.length b.length := List.length_zipWith
theorem zadd_at (a b : List F) (i : Nat) (h1 : i < a.length) (h2 : i < b.length) : (zadd a b).getD i 0 = a.getD i 0 + b.getD i 0 := by
  have h3 : i < (zadd a b).length := by rw [zadd_len]; omega
  simp only [List.getD_eq_getElem?_getD, List.getElem?_eq_getElem h1, List.getElem?_eq_getElem h2, List.getElem?_eq_getElem h3, List.getElem_zipWith, Option.getD_some]
/-- The first j sums. -/
def zaddTo (x y : List F) (j : Nat) : List F := (zadd (x.take j) (y.take j)) ++ x.drop j
theorem zaddTo_0 (x y : List F) : zaddTo x y 0 = x := by simp [zaddTo]
theorem zaddTo_len (x y : List F) (j : Nat) (h1 : j ≤ x.length) (h2 : j ≤ y.length) : (zaddTo x y j).length = x.length := by
  unfold zaddTo
  rw [List.length_append, zadd_len, List.length_take, List.length_take, List.length_drop]; omega
theorem zaddTo_all (x y : List F) (h : x.length ≤ y.length) : zaddTo x y x.length = zadd x y := by
  unfold zaddTo
  rw [List.take_length, List.drop_length, List.append_nil]
  apply ext_at
  · rw [zadd_len, zadd_len, List.length_take]; omega
  · intro k hk
    rw [zadd_len, List.length_take] at hk
    show (zadd x (y.take x.length)).getD k 0 = (zadd x y).getD k 0
    rw [zadd_at _ _ _ (by omega) (by rw [List.length_take]; omega), zadd_at _ _ _ (by omega) (by omega)]
    congr 1
    exact (at_take y x.length k).trans (if_pos (by omega))
theorem zaddTo_at (x y : List F) (j : Nat) (h1 : j < x.length) (h2 : j < y.length) : (zaddTo x y j).getD j 0 = x.getD j 0 := by
  have hl : (zadd (x.take j) (y.take j)).length = j := by rw [zadd_len, List.length_take, List.length_take]; omega
  unfold zaddTo
  simp only [List.getD_eq_getElem?_getD]
  rw [List.getElem?_append_right (by omega), hl, Nat.sub_self, List.getElem?_drop, Nat.add_zero]
theorem zaddTo_set (x y : List F) (j : Nat) (h1 : j < x.length) (h2 : j < y.length) : (zaddTo x y j).set j (x.getD j 0 + y.getD j 0) = zaddTo x y (j + 1) := by
  apply ext_at
  · rw [List.length_set, zaddTo_len _ _ _ (by omega) (by omega), zaddTo_len _ _ _ (by omega) (by omega)]
  · intro k hk
    rw [List.length_set, zaddTo_len _ _ _ (by omega) (by omega)] at hk
    rw [at_set _ _ _ (by rw [zaddTo_len _ _ _ (by omega) (by omega)]; exact h1)]
    have hz : ∀ i, i ≤ x.length → i ≤ y.length → at_ (zaddTo x y i) k = if k < i then x.getD k 0 + y.getD k 0 else x.getD k 0 := by
      intro i hi hi2
      have hl : (zadd (x.take i) (y.take i)).length = i := by rw [zadd_len, List.length_take, List.length_take]; omega
      show (zaddTo x y i).getD k 0 = _
      unfold zaddTo
      by_cases e : k < i
      · rw [if_pos e]
        have : ((zadd (x.take i) (y.take i)) ++ x.drop i).getD k 0 = (zadd (x.take i) (y.take i)).getD k 0 := by
          simp only [List.getD_eq_getElem?_getD]
          rw [List.getElem?_append_left (by omega)]
        rw [this, zadd_at _ _ _ (by rw [List.length_take]; omega) (by rw [List.length_take]; omega)]
        congr 1
        · exact (at_take x i k).trans (if_pos e)
        · exact (at_take y i k).trans (if_pos e)
      · rw [if_neg e]
        simp only [List.getD_eq_getElem?_getD]
        rw [List.getElem?_append_right (by omega), hl, List.getElem?_drop, show i + (k - i) = k from by omega]
    rw [hz j (by omega) (by omega), hz (j + 1) (by omega) (by omega)]
    by_cases e : k = j
    · subst e
      rw [if_pos rfl, if_pos (by omega)]
    · rw [if_neg e]
      by_cases e2 : k < j
      · rw [if_pos e2, if_pos (by omega)]
      · rw [if_neg e2, if_neg (by omega)]
theorem zadd_take (x y : List F) : zadd (x.take (min x.length y.length)) y = zadd x y := by
  apply ext_at
  · rw [zadd_len, zadd_len, List.length_take]; omega
  · intro k hk
    rw [zadd_len, List.length_take] at hk
    show (zadd _ y).getD k 0 = (zadd x y).getD k 0
    rw [zadd_at _ _ _ (by rw [List.length_take]; omega) (by omega), zadd_at _ _ _ (by omega) (by omega)]
    congr 1
    exact (at_take x _ k).trans (if_pos (by omega))
theorem zadd_snoc (x y : List F) (k : Nat) (h1 : k < x.length) (h2 : k < y.length) : zadd (x.take (k + 1)) (y.take (k + 1)) = zadd (x.take k) (y.take k) ++ [x.getD k 0 + y.getD k 0] := by
  have e1 : x.take (k + 1) = x.take k ++ [x.getD k 0] := by rw [List.take_succ_eq_append_getElem h1]; simp [List.getD_eq_getElem?_getD, h1]
  have e2 : y.take (k + 1) = y.take k ++ [y.getD k 0] := by rw [List.take_succ_eq_append_getElem h2]; simp [List.getD_eq_getElem?_getD, h2]
  rw [e1, e2]
  exact List.zipWith_append (by rw [List.length_take, List.length_take]; omega)
theorem zadd_done (x y : List F) (k : Nat) (h : x.length ≤ k ∨ y.length ≤ k) : zadd (x.take k) (y.take k) = zadd x y := by
  apply ext_at
  · rw [zadd_len, zadd_len, List.length_take, List.length_take]; omega
  · intro i hi
    rw [zadd_len, List.length_take, List.length_take] at hi
    show (zadd _ _).getD i 0 = (zadd x y).getD i 0
    rw [zadd_at _ _ _ (by rw [List.length_take]; omega) (by rw [List.length_take]; omega), zadd_at _ _ _ (by omega) (by omega)]
    congr 1
    · exact (at_take x k i).trans (if_pos (by omega))
    · exact (at_take y k i).trans (if_pos (by omega))
def addAll : List (List F) → List F
  | [] => []
  | a :: l => l.foldl zadd a
/-! ### shares -/
/-- The j-th part of a tape, of n bytes. -/
def tp (n : Nat) (t : List F) (j : Nat) : List F := (t.drop (j * n)).take n
theorem tp_len (n : Nat) (t : List F) (j : Nat) (h : (j + 1) * n ≤ t.length) : (tp n t j).length = n := by
  rw [Nat.add_mul] at h
  unfold tp
  rw [List.length_take, List.length_drop]; omega
theorem tp_le (n : Nat) (t : List F) (j : Nat) : (tp n t j).length ≤ n := by unfold tp; rw [List.length_take]; omega
theorem tp_at (n : Nat) (t : List F) (j i : Nat) (h : i < n) : (tp n t j).getD i 0 = t.getD (j * n + i) 0 := by
  simp only [tp, List.getD_eq_getElem?_getD]
  rw [List.getElem?_take_of_lt h, List.getElem?_drop]
/-- A stripe's polynomial; what it is at x, as the dealer reckons it. -/
def dpoly (at' row t : List F) : List F := padd (thr at' row at'.length) (pmul (rt at') t)
theorem ev_dpoly (at' row t : List F) (x : F) (h : at'.length < 255) : ev x (dpoly at' row t) = dot (wts at' x) row + ev x (rt at') * ev x t := by
  unfold dpoly
  rw [ev_padd, ev_pmul, dot_wts at' row x h]
theorem dpoly_len (at' row t : List F) (ht : t ≠ []) : (dpoly at' row t).length = at'.length + t.length := by
  have := List.length_pos_iff.2 ht
  unfold dpoly
  rw [padd_len, thr_len, pmul_len (rt_ne _) ht, rt_len]; omega
theorem dpoly_at {at' : List F} (row t : List F) (hn : at'.Nodup) (h : at'.length < 255) (j : Nat) (hj : j < at'.length) : ev (at'.getD j 0) (dpoly at' row t) = row.getD j 0 := by
  have h0 : ev (at'.getD j 0) (rt at') = 0 := (ev_rt _ _).2 (by simp [List.getD_eq_getElem?_getD, hj])
  unfold dpoly
  rw [ev_padd, ev_pmul, h0, zero_mul, add_zero, thr_at row hn j hj h]
/-- The j-th bytes. -/
def colOf (l : List (List F)) (j : Nat) : List F := l.map (·.getD j 0)
theorem colOf_len (l : List (List F)) (j : Nat) : (colOf l j).length = l.length := by simp [colOf]
theorem colOf_at (l : List (List F)) (j k : Nat) (h : k < l.length) : (colOf l j).getD k 0 = (l.getD k []).getD j 0 := by simp [colOf, List.getD_eq_getElem?_getD, h]
/-- What is found: of the values at xs the value at x, stripe by stripe. -/
def findOf (xs : List F) (x : F) (l : List (List F)) (s : Nat) : List F := (List.range s).map fun j => dot (wts xs x) (colOf l j)
end F
end Go.Proofs.Sh
