/- Several texts of this seat, one behind the other. -/
import Derived.Test.YtacbenjfiabegaaM5
/- Plain: stripes, sums of lists, shares: no Go in sight. -/
namespace Go.Proofs.Sh
set_option linter.unusedVariables false
namespace F
/-! ### stripes -/
/-- The k-th stripe of a blob; the first n of them. -/
def rowOf (L : Nat) (b : List F) (k : Nat) : List F := (List.range L).map fun j => b.getD (k * L + j) 0
def cutOf (L : Nat) (b : List F) (n : Nat) : List (List F) := (List.range n).map (rowOf L b)
/-- How many stripes so many bytes have. -/
def nS (L size : Nat) : Nat := (size + L - 1) / L
theorem rowOf_len (L : Nat) (b : List F) (k : Nat) : (rowOf L b k).length = L := by simp [rowOf]
theorem cutOf_len (L : Nat) (b : List F) (n : Nat) : (cutOf L b n).length = n := by simp [cutOf]
theorem rowOf_at (L : Nat) (b : List F) (k j : Nat) (h : j < L) : (rowOf L b k).getD j 0 = b.getD (k * L + j) 0 := by simp [rowOf, List.getD_eq_getElem?_getD, h]
theorem cutOf_at (L : Nat) (b : List F) (n k : Nat) (h : k < n) : (cutOf L b n).getD k [] = rowOf L b k := by simp [cutOf, List.getD_eq_getElem?_getD, h]
theorem cutOf_snoc (L : Nat) (b : List F) (n : Nat) : cutOf L b (n + 1) = cutOf L b n ++ [rowOf L b n] := by simp [cutOf, List.range_succ]
theorem nS_le (L size : Nat) (h : 0 < L) : size ≤ nS L size * L := by
  have h1 := Nat.div_add_mod (size + L - 1) L
  have h2 := Nat.mod_lt (size + L - 1) h
  unfold nS
  rw [Nat.mul_comm]
  generalize L * ((size + L - 1) / L) = z at *
  omega
theorem nS_lt (L size k : Nat) (h : 0 < L) : k < nS L size ↔ k * L < size := by
  unfold nS
  rw [Nat.lt_iff_add_one_le, Nat.le_div_iff_mul_le h, Nat.add_mul]
  omega
/-- A part, and zeros, is a row. -/
theorem part_row (L : Nat) (b : List F) (k : Nat) : (b.drop (k * L)).take L ++ List.replicate (L - ((b.drop (k * L)).take L).length) 0 = rowOf L b k := by
  apply ext_at
  · simp [rowOf]; omega
  · intro j hj
    have hjL : j < L := by simp at hj; omega
    show _ = (rowOf L b k).getD j 0
    rw [rowOf_at _ _ _ _ hjL]
    simp only [at_, List.getD_eq_getElem?_getD]
    by_cases h : j < ((b.drop (k * L)).take L).length
    · rw [List.getElem?_append_left h, List.getElem?_take_of_lt hjL, List.getElem?_drop]
    · rw [List.getElem?_append_right (by omega), List.getElem?_replicate]
      have : b.length ≤ k * L + j := by simp at h; omega
      rw [List.getElem?_eq_none this]
      split <;> rfl
/-! ### joined stripes -/
def joinOf (L : Nat) (l : List (List F)) (n : Nat) : List F := (List.range n).map fun i => (l.getD (i / L) []).getD (i % L) 0
theorem joinOf_len (L : Nat) (l : List (List F)) (n : Nat) : (joinOf L l n).length = n := by simp [joinOf]
theorem joinOf_at (L : Nat) (l : List (List F)) (n i : Nat) (h : i < n) : (joinOf L l n).getD i 0 = (l.getD (i / L) []).getD (i % L) 0 := by simp [joinOf, List.getD_eq_getElem?_getD, h]
theorem flat_at (L : Nat) (hL : 0 < L) : ∀ (l : List (List F)), (∀ r ∈ l, r.length = L) → ∀ i, i < l.length * L → l.flatten.getD i 0 = (l.getD (i / L) []).getD (i % L) 0
  | [], _, i, hi => by simp at hi
  | r :: l, h, i, hi => by
    have hr := h r (List.mem_cons_self ..)
    rw [List.flatten_cons]
    by_cases e : i < L
    · rw [Nat.div_eq_of_lt e, Nat.mod_eq_of_lt e]
      simp only [List.getD_eq_getElem?_getD]
      rw [List.getElem?_append_left (by omega)]
      rfl
    · have ih := flat_at L hL l (fun r hr => h r (List.mem_cons_of_mem _ hr)) (i - L) (by rw [List.length_cons, Nat.add_mul] at hi; omega)
      have e1 : i / L = (i - L) / L + 1 := by rw [Nat.div_eq i L, if_pos ⟨hL, by omega⟩]
      have e2 : i % L = (i - L) % L := by rw [Nat.mod_eq_sub_mod (by omega)]
      rw [e1, e2]
      simp only [List.getD_eq_getElem?_getD] at ih ⊢
      rw [List.getElem?_append_right (by omega), hr, ih]
      rfl
theorem flat_len (L : Nat) : ∀ (l : List (List F)), (∀ r ∈ l, r.length = L) → l.flatten.length = l.length * L
  | [], _ => by simp
  | r :: l, h => by
    rw [List.flatten_cons, List.length_append, flat_len L l (fun r hr => h r (List.mem_cons_of_mem _ hr)), h r (List.mem_cons_self ..), List.length_cons, Nat.add_mul]
    omega
theorem flat_take (L : Nat) (hL : 0 < L) (l : List (List F)) (h : ∀ r ∈ l, r.length = L) (n : Nat) (hn : n ≤ l.length * L) : l.flatten.take n = joinOf L l n := by
  apply ext_at
  · rw [List.length_take, flat_len L l h, joinOf_len]; omega
  · intro i hi
    rw [List.length_take] at hi
    rw [at_take, if_pos (by omega)]
    show l.flatten.getD i 0 = (joinOf L l n).getD i 0
    rw [flat_at L hL l h i (by omega), joinOf_at _ _ _ _ (by omega)]
theorem join_cut (L : Nat) (hL : 0 < L) (b : List F) (n : Nat) (h : b.length ≤ n * L) : joinOf L (cutOf L b n) b.length = b := by
  apply ext_at (by rw [joinOf_len])
  intro i hi
  rw [joinOf_len] at hi
  show (joinOf L (cutOf L b n) b.length).getD i 0 = b.getD i 0
  rw [joinOf_at _ _ _ _ hi, cutOf_at _ _ _ _ ((Nat.div_lt_iff_lt_mul hL).2 (by omega)), rowOf_at _ _ _ _ (Nat.mod_lt _ hL), Nat.mul_comm, Nat.div_add_mod]
/-! ### sums of lists -/
abbrev zadd (a b : List F) : List F := List.zipWith (· + ·) a b
theorem zadd_len (a b : List F) : (zadd a b).length = min a.length b.length := List.length_zipWith
theorem zadd_at (a b : List F) (i : Nat) (h1 : i < a.length) (h2 : i < b.length) : (zadd a b).getD i 0 = a.getD i 0 + b.getD i 0 := by
  have h3 : i < (zadd a b).length := by rw [zadd_len]; omega
  simp only [List.getD_eq_getElem?_getD, List.getElem?_eq_getElem h1, List.getElem?_eq_getElem h2, List.getElem?_eq_getElem h3, List.getElem_zipWith, Option.getD_some]
/-- The first j sums. -/
def zaddTo (x y : List F) (j : Nat) : List F := (zadd (x.take j) (y.take j)) ++ x.drop j
theorem zaddTo_0 (x y : List F) : zaddTo x y 0 = x := by simp [zaddTo]
theorem zaddTo_len (x y : List F) (j : Nat) (h1 : j ≤ x.length) (h2 : j ≤ y.length) : (zaddTo x y j).length = x.length := by
  unfold zaddTo
  rw [List.length_append, zadd_len, List.length_take, List.length_take, List.length_drop]; omega
theorem zaddTo_all (x y : List F) (h : x.length ≤ y.length) : zaddTo x y x.length = zadd x y := by
  unfold zaddTo
  rw [List.take_length, List.drop_length, List.append_nil]
  apply ext_at
  · rw [zadd_len, zadd_len, List.length_take]; omega
  · intro k hk
    rw [zadd_len, List.length_take] at hk
    show (zadd x (y.take x.length)).getD k 0 = (zadd x y).getD k 0
    rw [zadd_at _ _ _ (by omega) (by rw [List.length_take]; omega), zadd_at _ _ _ (by omega) (by omega)]
    congr 1
    exact (at_take y x.length k).trans (if_pos (by omega))
theorem zaddTo_at (x y : List F) (j : Nat) (h1 : j < x.length) (h2 : j < y.length) : (zaddTo x y j).getD j 0 = x.getD j 0 := by
  have hl : (zadd (x.take j) (y.take j)).length = j := by rw [zadd_len, List.length_take, List.length_take]; omega
  unfold zaddTo
  simp only [List.getD_eq_getElem?_getD]
  rw [List.getElem?_append_right (by omega), hl, Nat.sub_self, List.getElem?_drop, Nat.add_zero]
theorem zaddTo_set (x y : List F) (j : Nat) (h1 : j < x.length) (h2 : j < y.length) : (zaddTo x y j).set j (x.getD j 0 + y.getD j 0) = zaddTo x y (j + 1) := by
  apply ext_at
  · rw [List.length_set, zaddTo_len _ _ _ (by omega) (by omega), zaddTo_len _ _ _ (by omega) (by omega)]
  · intro k hk
    rw [List.length_set, zaddTo_len _ _ _ (by omega) (by omega)] at hk
    rw [at_set _ _ _ (by rw [zaddTo_len _ _ _ (by omega) (by omega)]; exact h1)]
    have hz : ∀ i, i ≤ x.length → i ≤ y.length → at_ (zaddTo x y i) k = if k < i then x.getD k 0 + y.getD k 0 else x.getD k 0 := by
      intro i hi hi2
      have hl : (zadd (x.take i) (y.take i)).length = i := by rw [zadd_len, List.length_take, List.length_take]; omega
      show (zaddTo x y i).getD k 0 = _
      unfold zaddTo
      by_cases e : k < i
      · rw [if_pos e]
        have : ((zadd (x.take i) (y.take i)) ++ x.drop i).getD k 0 = (zadd (x.take i) (y.take i)).getD k 0 := by
          simp only [List.getD_eq_getElem?_getD]
          rw [List.getElem?_append_left (by omega)]
        rw [this, zadd_at _ _ _ (by rw [List.length_take]; omega) (by rw [List.length_take]; omega)]
        congr 1
        · exact (at_take x i k).trans (if_pos e)
        · exact (at_take y i k).trans (if_pos e)
      · rw [if_neg e]
        simp only [List.getD_eq_getElem?_getD]
        rw [List.getElem?_append_right (by omega), hl, List.getElem?_drop, show i + (k - i) = k from by omega]
    rw [hz j (by omega) (by omega), hz (j + 1) (by omega) (by omega)]
    by_cases e : k = j
    · subst e
      rw [if_pos rfl, if_pos (by omega)]
    · rw [if_neg e]
      by_cases e2 : k < j
      · rw [if_pos e2, if_pos (by omega)]
      · rw [if_neg e2, if_neg (by omega)]
theorem zadd_take (x y : List F) : zadd (x.take (min x.length y.length)) y = zadd x y := by
  apply ext_at
  · rw [zadd_len, zadd_len, List.length_take]; omega
  · intro k hk
    rw [zadd_len, List.length_take] at hk
    show (zadd _ y).getD k 0 = (zadd x y).getD k 0
    rw [zadd_at _ _ _ (by rw [List.length_take]; omega) (by omega), zadd_at _ _ _ (by omega) (by omega)]
    congr 1
    exact (at_take x _ k).trans (if_pos (by omega))
theorem zadd_snoc (x y : List F) (k : Nat) (h1 : k < x.length) (h2 : k < y.length) : zadd (x.take (k + 1)) (y.take (k + 1)) = zadd (x.take k) (y.take k) ++ [x.getD k 0 + y.getD k 0] := by
  have e1 : x.take (k + 1) = x.take k ++ [x.getD k 0] := by rw [List.take_succ_eq_append_getElem h1]; simp [List.getD_eq_getElem?_getD, h1]
  have e2 : y.take (k + 1) = y.take k ++ [y.getD k 0] := by rw [List.take_succ_eq_append_getElem h2]; simp [List.getD_eq_getElem?_getD, h2]
  rw [e1, e2]
  exact List.zipWith_append (by rw [List.length_take, List.length_take]; omega)
theorem zadd_done (x y : List F) (k : Nat) (h : x.length ≤ k ∨ y.length ≤ k) : zadd (x.take k) (y.take k) = zadd x y := by
  apply ext_at
  · rw [zadd_len, zadd_len, List.length_take, List.length_take]; omega
  · intro i hi
    rw [zadd_len, List.length_take, List.length_take] at hi
    show (zadd _ _).getD i 0 = (zadd x y).getD i 0
    rw [zadd_at _ _ _ (by rw [List.length_take]; omega) (by rw [List.length_take]; omega), zadd_at _ _ _ (by omega) (by omega)]
    congr 1
    · exact (at_take x k i).trans (if_pos (by omega))
    · exact (at_take y k i).trans (if_pos (by omega))
def addAll : List (List F) → List F
  | [] => []
  | a :: l => l.foldl zadd a
/-! ### shares -/
/-- The j-th part of a tape, of n bytes. -/
def tp (n : Nat) (t : List F) (j : Nat) : List F := (t.drop (j * n)).take n
theorem tp_len (n : Nat) (t : List F) (j : Nat) (h : (j + 1) * n ≤ t.length) : (tp n t j).length = n := by
  rw [Nat.add_mul] at h
  unfold tp
  rw [List.length_take, List.length_drop]; omega
theorem tp_le (n : Nat) (t : List F) (j : Nat) : (tp n t j).length ≤ n := by unfold tp; rw [List.length_take]; omega
theorem tp_at (n : Nat) (t : List F) (j i : Nat) (h : i < n) : (tp n t j).getD i 0 = t.getD (j * n + i) 0 := by
  simp only [tp, List.getD_eq_getElem?_getD]
  rw [List.getElem?_take_of_lt h, List.getElem?_drop]
/-- A stripe's polynomial; what it is at x, as the dealer reckons it. -/
def dpoly (at' row t : List F) : List F := padd (thr at' row at'.length) (pmul (rt at') t)
theorem ev_dpoly (at' row t : List F) (x : F) (h : at'.length < 255) : ev x (dpoly at' row t) = dot (wts at' x) row + ev x (rt at') * ev x t := by
  unfold dpoly
  rw [ev_padd, ev_pmul, dot_wts at' row x h]
theorem dpoly_len (at' row t : List F) (ht : t ≠ []) : (dpoly at' row t).length = at'.length + t.length := by
  have := List.length_pos_iff.2 ht
  unfold dpoly
  rw [padd_len, thr_len, pmul_len (rt_ne _) ht, rt_len]; omega
theorem dpoly_at {at' : List F} (row t : List F) (hn : at'.Nodup) (h : at'.length < 255) (j : Nat) (hj : j < at'.length) : ev (at'.getD j 0) (dpoly at' row t) = row.getD j 0 := by
  have h0 : ev (at'.getD j 0) (rt at') = 0 := (ev_rt _ _).2 (by simp [List.getD_eq_getElem?_getD, hj])
  unfold dpoly
  rw [ev_padd, ev_pmul, h0, zero_mul, add_zero, thr_at row hn j hj h]
/-- The j-th bytes. -/
def colOf (l : List (List F)) (j : Nat) : List F := l.map (·.getD j 0)
theorem colOf_len (l : List (List F)) (j : Nat) : (colOf l j).length = l.length := by simp [colOf]
theorem colOf_at (l : List (List F)) (j k : Nat) (h : k < l.length) : (colOf l j).getD k 0 = (l.getD k []).getD j 0 := by simp [colOf, List.getD_eq_getElem?_getD, h]
/-- What is found: of the values at xs the value at x, stripe by stripe. -/
def findOf (xs : List F) (x : F) (l : List (List F)) (s : Nat) : List F := (List.range s).map fun j => dot (wts xs x) (colOf l j)
end F
end Go.Proofs.Sh

/- Masks: plain, no Go in sight. -/
namespace Go.Proofs.Sh
open F
/-- So many bytes. -/
def szd (l : List F) (n : Nat) : List F := (List.range n).map fun i => l.getD i 0
theorem szd_len (l : List F) (n : Nat) : (szd l n).length = n := by simp [szd]
theorem szd_at (l : List F) (n i : Nat) (h : i < n) : (szd l n).getD i 0 = l.getD i 0 := by simp [szd, List.getD_eq_getElem?_getD, h]
theorem szd_self (l : List F) : szd l l.length = l := by
  apply ext_at (szd_len _ _)
  intro k hk
  rw [szd_len] at hk
  exact szd_at l _ k hk
theorem szd_copy (l : List F) (n : Nat) : l.take (min l.length n) ++ (List.replicate n (0 : F)).drop (min l.length n) = szd l n := by
  apply ext_at
  · rw [szd_len, List.length_append, List.length_take, List.length_drop, List.length_replicate]; omega
  · intro k hk
    rw [List.length_append, List.length_take, List.length_drop, List.length_replicate] at hk
    show _ = (szd l n).getD k 0
    rw [szd_at l n k (by omega)]
    show (l.take _ ++ _).getD k 0 = _
    by_cases h : k < min l.length n
    · rw [List.getD_eq_getElem?_getD, List.getElem?_append_left (by rw [List.length_take]; omega), List.getElem?_take, if_pos h, List.getD_eq_getElem?_getD]
    · rw [List.getD_eq_getElem?_getD, List.getElem?_append_right (by rw [List.length_take]; omega), List.getElem?_drop, List.getElem?_replicate, if_pos (by rw [List.length_take]; omega)]
      rw [List.getD_eq_getElem?_getD, List.getElem?_eq_none (by omega)]
      rfl
theorem szd_snoc (l : List F) (n : Nat) : szd l (n + 1) = szd l n ++ [l.getD n 0] := by simp [szd, List.range_succ]
/-- Custodians, and others of l, till there are T. -/
def fil (T : Int) (zs l : List Int) : List Int := l.foldl (fun out i => if (out.length : Int) < T ∧ i ∉ zs then out ++ [i] else out) zs
theorem fil_snoc (T : Int) (zs l : List Int) (i : Int) : fil T zs (l ++ [i]) = if ((fil T zs l).length : Int) < T ∧ i ∉ zs then fil T zs l ++ [i] else fil T zs l := by
  unfold fil
  rw [List.foldl_append]
  rfl
theorem all_take_succ (p : Pl) (k : Nat) (h : k < p.N.toNat) : (allOf p).take (k + 1) = (allOf p).take k ++ [((k + 1 : Nat) : Int)] := by
  have hl : k < (allOf p).length := by rw [all_len]; exact h
  rw [List.take_succ_eq_append_getElem hl]
  simp [allOf]
theorem mem_all_take (p : Pl) (k : Nat) (x : Int) : x ∈ (allOf p).take k → 1 ≤ x ∧ x ≤ k ∧ x ≤ p.N := by
  intro h
  obtain ⟨i, hi, rfl⟩ := List.mem_iff_getElem.1 h
  rw [List.length_take, all_len] at hi
  simp only [List.getElem_take, allOf, List.getElem_map, List.getElem_range]
  omega
theorem fil_pre (T : Int) (zs : List Int) : ∀ l, ∃ r, fil T zs l = zs ++ r := snoc_ind ⟨[], by simp [fil]⟩ (fun l i ⟨r, h⟩ => by
  rw [fil_snoc]
  split
  · exact ⟨r ++ [i], by rw [h, List.append_assoc]⟩
  · exact ⟨r, h⟩)
/-- What stands at the end is as it ought to be. -/
theorem fil_ok (p : Pl) (zs : List Int) (hn : zs.Nodup) (hz : ∀ i ∈ zs, 1 ≤ i ∧ i ≤ p.N) : ∀ k, k ≤ p.N.toNat → (fil p.T zs ((allOf p).take k)).Nodup ∧ (∀ i ∈ fil p.T zs ((allOf p).take k), (1 ≤ i ∧ i ≤ p.N) ∧ (i ∈ zs ∨ i ≤ k))
  | 0, _ => ⟨by simpa [fil] using hn, fun i hi => by
      have hi : i ∈ zs := by simpa [fil] using hi
      exact ⟨hz i hi, .inl hi⟩⟩
  | k + 1, hk => by
    obtain ⟨h1, h2⟩ := fil_ok p zs hn hz k (by omega)
    rw [all_take_succ p k (by omega), fil_snoc]
    split
    · rename_i hc
      refine ⟨?_, fun i hi => ?_⟩
      · rw [List.nodup_append]
        refine ⟨h1, by simp, fun a ha b hb e => ?_⟩
        rw [List.mem_singleton] at hb
        rcases (h2 a ha).2 with h | h
        · exact hc.2 (by rw [← hb, ← e]; exact h)
        · omega
      · rcases List.mem_append.1 hi with hi | hi
        · exact ⟨(h2 i hi).1, (h2 i hi).2.imp id (fun h => by omega)⟩
        · rw [List.mem_singleton] at hi
          subst hi
          exact ⟨by omega, .inr (Int.le_refl _)⟩
    · exact ⟨h1, fun i hi => ⟨(h2 i hi).1, (h2 i hi).2.imp id (fun h => by omega)⟩⟩
/-- It is T long, or all of l are in it. -/
theorem fil_len (T : Int) (zs : List Int) (hl : (zs.length : Int) ≤ T) : ∀ l, ((fil T zs l).length : Int) ≤ T ∧ (((fil T zs l).length : Int) < T → ∀ i ∈ l, i ∈ fil T zs l) := snoc_ind ⟨by simpa [fil] using hl, by simp⟩ (fun l i ⟨h1, h2⟩ => by
  rw [fil_snoc]
  obtain ⟨r, hr⟩ := fil_pre T zs l
  split
  · rename_i hc
    refine ⟨by rw [List.length_append, List.length_singleton]; omega, fun hlt j hj => ?_⟩
    rcases List.mem_append.1 hj with hj | hj
    · exact List.mem_append.2 (.inl (h2 hc.1 j hj))
    · exact List.mem_append.2 (.inr hj)
  · rename_i hc
    refine ⟨h1, fun hlt j hj => ?_⟩
    rcases List.mem_append.1 hj with hj | hj
    · exact h2 hlt j hj
    · rw [List.mem_singleton] at hj
      subst hj
      have : j ∈ zs := Classical.byContradiction fun h => hc ⟨hlt, h⟩
      rw [hr]
      exact List.mem_append.2 (.inl this))
theorem all_nodupI (p : Pl) : (allOf p).Nodup := by
  unfold allOf
  rw [List.nodup_iff_pairwise_ne, List.pairwise_map]
  exact (List.nodup_iff_pairwise_ne.1 List.nodup_range).imp (fun h e => h (by omega))
theorem sub_len {α : Type} [DecidableEq α] : ∀ (a b : List α), a.Nodup → (∀ x ∈ a, x ∈ b) → a.length ≤ b.length
  | [], b, _, _ => Nat.zero_le _
  | x :: a, b, hn, h => by
    have hx := h x (List.mem_cons_self ..)
    have hn2 := List.nodup_cons.1 hn
    have := sub_len a (b.erase x) hn2.2 (fun y hy => (List.mem_erase_of_ne (fun e => hn2.1 (by rw [← e]; exact hy))).2 (h y (List.mem_cons_of_mem _ hy)))
    rw [List.length_erase_of_mem hx] at this
    have := List.length_pos_of_mem hx
    simp only [List.length_cons]
    omega
theorem fil_full (p : Pl) (h : p.Ok) (zs : List Int) (hl : (zs.length : Int) ≤ p.T) : ((fil p.T zs (allOf p)).length : Int) = p.T := by
  obtain ⟨h1, h2⟩ := fil_len p.T zs hl (allOf p)
  refine Classical.byContradiction fun hne => ?_
  have := sub_len (allOf p) _ (all_nodupI p) (h2 (by omega))
  rw [all_len] at this
  have := h.l; have := h.tl; have := h.wn
  omega
/-- The places of a shift. -/
def shXs (p : Pl) (zs : List Int) : List F := secretsAt p ++ (fil p.T zs (allOf p)).map point
def shOf (p : Pl) (d : List F) (zs : List Int) : List F := thr (shXs p zs) (szd d (shXs p zs).length) (shXs p zs).length
theorem shXs_len (p : Pl) (h : p.Ok) (zs : List Int) (hl : (zs.length : Int) ≤ p.T) : (((shXs p zs).length : Nat) : Int) = p.T + p.L := by
  have := fil_full p h zs hl
  have := h.l
  rw [shXs, List.length_append, List.length_map, secrets_len]
  omega
theorem shXs_nodup (p : Pl) (h : p.Ok) (zs : List Int) (hn : zs.Nodup) (hz : ∀ i ∈ zs, 1 ≤ i ∧ i ≤ p.N) : (shXs p zs).Nodup := by
  have ha := fil_ok p zs hn hz p.N.toNat (Nat.le_refl _)
  rw [List.take_of_length_le (by rw [all_len]; exact Nat.le_refl _)] at ha
  have hu := points_unlike p h
  rw [List.nodup_append] at hu
  obtain ⟨u1, u2, u3⟩ := hu
  rw [shXs, List.nodup_append]
  have hm : ∀ i ∈ fil p.T zs (allOf p), i ∈ allOf p := fun i hi => by
    have h1 := (ha.2 i hi).1
    refine List.mem_map.2 ⟨(i - 1).toNat, List.mem_range.2 (by omega), by omega⟩
  refine ⟨u2, ?_, fun a h1 b h2 e => ?_⟩
  · rw [List.nodup_iff_pairwise_ne, List.pairwise_map]
    refine (List.nodup_iff_pairwise_ne.1 ha.1).imp_of_mem (fun {a b} h1 h2 hne e => hne ?_)
    have p1 := (ha.2 a h1).1
    have p2 := (ha.2 b h2).1
    have := h.nl; have := h.l
    unfold point at e
    rw [if_pos (by omega), if_pos (by omega)] at e
    have := F_of_inj (by omega) (by omega) e
    omega
  · obtain ⟨i, hi, rfl⟩ := List.mem_map.1 h2
    exact u3 _ (List.mem_map.2 ⟨i, hm i hi, rfl⟩) a h1 e.symm
/-- Divided by x + c, for each c. -/
def qts (xs p : List F) : List F := xs.foldl (fun p c => qt c p) p
theorem qts_snoc (xs p : List F) (c : F) : qts (xs ++ [c]) p = qt c (qts xs p) := by
  unfold qts
  rw [List.foldl_append]
  rfl
theorem qts_len (p : List F) : ∀ xs, (qts xs p).length = p.length - xs.length := snoc_ind rfl (fun xs c ih => by
  rw [qts_snoc, qt_len, ih, List.length_append, List.length_singleton]; omega)
/-- A mask added to a tape at a place; the first k bytes of it. -/
def apTo (t : List F) (a : Nat) (m : List F) (k : Nat) : List F := (List.range t.length).map fun j => t.getD j 0 + (if a ≤ j ∧ j < a + k then m.getD (j - a) 0 else 0)
def apM (t : List F) (a : Int) (m : List F) : List F := (List.range t.length).map fun j => t.getD j 0 + (if 0 ≤ a ∧ a ≤ j then m.getD (j - a.toNat) 0 else 0)
theorem apTo_len (t : List F) (a : Nat) (m : List F) (k : Nat) : (apTo t a m k).length = t.length := by simp [apTo]
theorem apM_len (t : List F) (a : Int) (m : List F) : (apM t a m).length = t.length := by simp [apM]
theorem apM_at (t : List F) (a : Int) (m : List F) (j : Nat) (h : j < t.length) : (apM t a m).getD j 0 = t.getD j 0 + (if 0 ≤ a ∧ a ≤ j then m.getD (j - a.toNat) 0 else 0) := by simp [apM, List.getD_eq_getElem?_getD, h]
theorem apTo_at (t : List F) (a : Nat) (m : List F) (k j : Nat) (h : j < t.length) : (apTo t a m k).getD j 0 = t.getD j 0 + (if a ≤ j ∧ j < a + k then m.getD (j - a) 0 else 0) := by simp [apTo, List.getD_eq_getElem?_getD, h]
theorem apTo_0 (t : List F) (a : Nat) (m : List F) : apTo t a m 0 = t := by
  apply ext_at (apTo_len _ _ _ _)
  intro j hj
  rw [apTo_len] at hj
  show (apTo t a m 0).getD j 0 = _
  rw [apTo_at t a m 0 j hj, if_neg (by omega), add_zero]
theorem apTo_set (t : List F) (a : Nat) (m : List F) (k : Nat) (h : a + k < t.length) : (apTo t a m k).set (a + k) ((apTo t a m k).getD (a + k) 0 + m.getD k 0) = apTo t a m (k + 1) := by
  apply ext_at (by rw [List.length_set, apTo_len, apTo_len])
  intro j hj
  rw [List.length_set, apTo_len] at hj
  rw [at_set _ _ _ (by rw [apTo_len]; exact h)]
  show _ = (apTo t a m (k + 1)).getD j 0
  rw [apTo_at t a m (k + 1) j hj, apTo_at t a m k (a + k) h]
  by_cases e : j = a + k
  · subst e
    rw [if_pos rfl, if_neg (by omega), if_pos (by omega), add_zero, Nat.add_sub_cancel_left]
  · rw [if_neg e]
    show (apTo t a m k).getD j 0 = _
    rw [apTo_at t a m k j hj]
    by_cases h1 : a ≤ j ∧ j < a + k
    · rw [if_pos h1, if_pos (by omega)]
    · rw [if_neg h1, if_neg (by omega)]
theorem apTo_all (t : List F) (a : Nat) (m : List F) : apTo t a m (min (t.length - a) m.length) = apM t a m := by
  apply ext_at (by rw [apTo_len, apM_len])
  intro j hj
  rw [apTo_len] at hj
  show (apTo _ _ _ _).getD j 0 = (apM t a m).getD j 0
  rw [apTo_at _ _ _ _ _ hj, apM_at _ _ _ _ hj]
  congr 1
  by_cases h1 : a ≤ j
  · by_cases h2 : j - a < m.length
    · rw [if_pos (by omega), if_pos (by omega)]; rfl
    · rw [if_neg (by omega), if_pos (by omega)]
      rw [List.getD_eq_getElem?_getD, List.getElem?_eq_none (by show m.length ≤ j - (a : Int).toNat; omega)]
      rfl
  · rw [if_neg (by omega), if_neg (by omega)]
theorem apM_out (t : List F) (a : Int) (m : List F) (h : a < 0 ∨ (t.length : Int) ≤ a) : apM t a m = t := by
  apply ext_at (apM_len _ _ _)
  intro j hj
  rw [apM_len] at hj
  show (apM t a m).getD j 0 = _
  rw [apM_at _ _ _ _ hj, if_neg (by omega), add_zero]
end Go.Proofs.Sh

/- The laws of the shift: plain, no Go in sight. -/
namespace Go.Proofs.Sh
open F
theorem fil_eq (T : Int) (zs : List Int) (hl : (zs.length : Int) ≤ T) : ∀ l, fil T zs l = zs ++ (l.filter (fun i => decide (i ∉ zs))).take (T.toNat - zs.length) := snoc_ind (by simp [fil]) (fun l i ih => by
  rw [fil_snoc, List.filter_append]
  by_cases hi : i ∈ zs
  · rw [if_neg (fun e => e.2 hi), ih]
    have : List.filter (fun i => decide (i ∉ zs)) [i] = [] := by simp [hi]
    rw [this, List.append_nil]
  · have h1 : List.filter (fun i => decide (i ∉ zs)) [i] = [i] := by simp [hi]
    rw [h1]
    have hlen : ((fil T zs l).length : Int) = zs.length + min (T.toNat - zs.length) (l.filter (fun i => decide (i ∉ zs))).length := by
      rw [ih, List.length_append, List.length_take]; omega
    by_cases h2 : (l.filter (fun i => decide (i ∉ zs))).length < T.toNat - zs.length
    · rw [if_pos ⟨by omega, hi⟩, ih, List.take_of_length_le (Nat.le_of_lt h2), List.take_of_length_le (by rw [List.length_append, List.length_singleton]; omega), List.append_assoc]
    · rw [if_neg (fun e => by have := e.1; omega), ih, List.take_append_of_le_length (by omega)])
theorem getD_left {α : Type} (a b : List α) (z : α) (k : Nat) (h : k < a.length) : (a ++ b).getD k z = a.getD k z := by
  rw [List.getD_eq_getElem?_getD, List.getElem?_append_left h, List.getD_eq_getElem?_getD]
theorem getD_right {α : Type} (a b : List α) (z : α) (k : Nat) : (a ++ b).getD (a.length + k) z = b.getD k z := by
  rw [List.getD_eq_getElem?_getD, List.getElem?_append_right (by omega), List.getD_eq_getElem?_getD, Nat.add_sub_cancel_left]
theorem sh_lt (p : Pl) (h : p.Ok) (hK : p.T + p.L < 255) (zs : List Int) (hl : (zs.length : Int) ≤ p.T) : (shXs p zs).length < 255 := by
  have := shXs_len p h zs hl
  omega
/-- It has the bytes. -/
theorem sh_secret (p : Pl) (h : p.Ok) (hK : p.T + p.L < 255) (d : List F) (zs : List Int) (hl : (zs.length : Int) ≤ p.T) (hn : zs.Nodup) (hz : ∀ i ∈ zs, 1 ≤ i ∧ i ≤ p.N) (j : Nat) (hj : j < (secretsAt p).length) : ev ((secretsAt p).getD j 0) (shOf p d zs) = d.getD j 0 := by
  have hj2 : j < (shXs p zs).length := by rw [shXs, List.length_append]; omega
  have := thr_at (szd d (shXs p zs).length) (shXs_nodup p h zs hn hz) j hj2 (sh_lt p h hK zs hl)
  rw [szd_at _ _ _ hj2] at this
  rw [← this, shOf]
  congr 1
  exact (getD_left _ _ _ _ hj).symm
/-- It is 0 at all that it is filled with. -/
theorem sh_fil (p : Pl) (h : p.Ok) (hK : p.T + p.L < 255) (d : List F) (zs : List Int) (hd : (d.length : Int) = p.L) (hl : (zs.length : Int) ≤ p.T) (hn : zs.Nodup) (hz : ∀ i ∈ zs, 1 ≤ i ∧ i ≤ p.N) (i : Int) (hi : i ∈ fil p.T zs (allOf p)) : ev (point i) (shOf p d zs) = 0 := by
  obtain ⟨k, hk, rfl⟩ := List.mem_iff_getElem.1 hi
  have hs := secrets_len p
  have hj2 : (secretsAt p).length + k < (shXs p zs).length := by rw [shXs, List.length_append, List.length_map]; omega
  have := thr_at (szd d (shXs p zs).length) (shXs_nodup p h zs hn hz) _ hj2 (sh_lt p h hK zs hl)
  rw [szd_at _ _ _ hj2] at this
  have e : d.getD ((secretsAt p).length + k) 0 = 0 := by
    rw [List.getD_eq_getElem?_getD, List.getElem?_eq_none (by omega)]
    rfl
  rw [e] at this
  rw [← this, shOf]
  congr 1
  rw [shXs, getD_right]
  simp [List.getD_eq_getElem?_getD, hk]
theorem sh_zero (p : Pl) (h : p.Ok) (hK : p.T + p.L < 255) (d : List F) (zs : List Int) (hd : (d.length : Int) = p.L) (hl : (zs.length : Int) ≤ p.T) (hn : zs.Nodup) (hz : ∀ i ∈ zs, 1 ≤ i ∧ i ≤ p.N) (i : Int) (hi : i ∈ zs) : ev (point i) (shOf p d zs) = 0 := by
  refine sh_fil p h hK d zs hd hl hn hz i ?_
  obtain ⟨r, hr⟩ := fil_pre p.T zs (allOf p)
  rw [hr]
  exact List.mem_append.2 (.inl hi)
theorem sh_len (p : Pl) (d : List F) (zs : List Int) : (shOf p d zs).length = (shXs p zs).length := thr_len _ _ _
/-- The order is of no matter. -/
theorem sh_turn (p : Pl) (h : p.Ok) (hK : p.T + p.L < 255) (d : List F) (zs ys : List Int) (hd : (d.length : Int) = p.L) (hl : (zs.length : Int) ≤ p.T) (hn : zs.Nodup) (hz : ∀ i ∈ zs, 1 ≤ i ∧ i ≤ p.N) (hy : ys.length = zs.length) (hyn : ys.Nodup) (hm : ∀ i, i ∈ ys ↔ i ∈ zs) : shOf p d ys = shOf p d zs := by
  have hly : (ys.length : Int) ≤ p.T := by omega
  have hzy : ∀ i ∈ ys, 1 ≤ i ∧ i ≤ p.N := fun i hi => hz i ((hm i).1 hi)
  have l1 := shXs_len p h zs hl
  have l2 := shXs_len p h ys hly
  have e1 := fil_eq p.T zs hl (allOf p)
  have e2 := fil_eq p.T ys hly (allOf p)
  have hf : (fun i => decide (i ∉ ys)) = (fun i => decide (i ∉ zs)) := by funext i; simp only [hm i]
  rw [hf, hy] at e2
  have hin : ∀ i, i ∈ fil p.T ys (allOf p) → i ∈ fil p.T zs (allOf p) := fun i hi => by
    rw [e2] at hi
    rw [e1]
    rcases List.mem_append.1 hi with hi | hi
    · exact List.mem_append.2 (.inl ((hm i).1 hi))
    · exact List.mem_append.2 (.inr hi)
  apply ext_at (by rw [sh_len, sh_len]; omega)
  intro k _
  refine thr_uniq (shXs_nodup p h ys hyn hzy) (sh_lt p h hK ys hly) (by rw [sh_len]; omega) (fun j hj => ?_) k
  rw [szd_at _ _ _ hj]
  by_cases hjs : j < (secretsAt p).length
  · rw [shXs, getD_left _ _ _ _ hjs]
    exact sh_secret p h hK d zs hl hn hz j hjs
  · obtain ⟨m, rfl⟩ : ∃ m, j = (secretsAt p).length + m := ⟨j - (secretsAt p).length, by omega⟩
    have hs := secrets_len p
    have hm2 : m < (fil p.T ys (allOf p)).length := by rw [shXs, List.length_append, List.length_map] at hj; omega
    rw [shXs, getD_right]
    have e : ((fil p.T ys (allOf p)).map point).getD m 0 = point ((fil p.T ys (allOf p))[m]) := by simp [List.getD_eq_getElem?_getD, hm2]
    rw [e, sh_fil p h hK d zs hd hl hn hz _ (hin _ (List.getElem_mem hm2)), List.getD_eq_getElem?_getD, List.getElem?_eq_none (by omega)]
    rfl
end Go.Proofs.Sh

/- Division by a polynomial whose highest byte is 1, place by place: plain. -/
namespace Go.Proofs.Sh
open F
theorem qts_nil (p : List F) : qts [] p = p := rfl
theorem rt_nil : rt [] = [1] := rfl
theorem qts_ev (p : List F) : ∀ xs : List F, ∃ R : List F, R.length ≤ xs.length ∧ ∀ x, ev x p = ev x (qts xs p) * ev x (rt xs) + ev x R := snoc_ind
  ⟨[], Nat.le_refl _, fun x => by rw [qts_nil, rt_nil, ev_one, F.mul_one, ev_nil, F.add_zero]⟩
  (fun xs c ⟨R, hl, h⟩ => ⟨padd R (psc (ev c (qts xs p)) (rt xs)), by rw [padd_len, List.length_map, rt_len, List.length_append, List.length_singleton]; omega, fun x => by
    rw [h x, qts_snoc, rt_snoc, ev_pmul, ev_lin, ev_padd, ev_psc, ev_over c x (qts xs p), F.add_mul]
    ac_rfl⟩)
/-- With coefficients. -/
theorem qts_at (p xs : List F) (hp : p.length ≤ 256) (hx : xs.length ≤ p.length) : ∃ R : List F, R.length ≤ xs.length ∧ ∀ k, at_ p k = cf (qts xs p) (rt xs) (qts xs p).length k + at_ R k := by
  obtain ⟨R, hl, h⟩ := qts_ev p xs
  refine ⟨R, hl, fun k => ?_⟩
  have hpl : (pmul (qts xs p) (rt xs)).length ≤ 256 := by
    by_cases h0 : qts xs p = []
    · rw [h0, pmul_nil_l]; simp
    · rw [pmul_len h0 (rt_ne xs), qts_len, rt_len]; omega
  have := uniq all_nodup (p := p) (q := padd (pmul (qts xs p) (rt xs)) R) (by rw [all_length]; exact hp) (by rw [all_length, padd_len]; omega) (fun x _ => by rw [ev_padd, ev_pmul]; exact h x) k
  rw [this, padd_at, pmul_at]
/-- One step, as far as i. -/
def lpart (q : List F) (k : Nat) (c : F) (i : Nat) (r : List F) : List F := (List.range r.length).map fun t => at_ r t + (if k ≤ t ∧ t < k + i then c * at_ q (t - k) else 0)
theorem lpart_len (q : List F) (k : Nat) (c : F) (i : Nat) (r : List F) : (lpart q k c i r).length = r.length := by simp [lpart]
theorem lpart_at (q : List F) (k : Nat) (c : F) (i : Nat) (r : List F) (t : Nat) (h : t < r.length) : at_ (lpart q k c i r) t = at_ r t + (if k ≤ t ∧ t < k + i then c * at_ q (t - k) else 0) := by
  simp [lpart, List.getD_eq_getElem?_getD, h]
theorem lpart_0 (q : List F) (k : Nat) (c : F) (r : List F) : lpart q k c 0 r = r := by
  apply ext_at (lpart_len _ _ _ _ _)
  intro t ht
  rw [lpart_len] at ht
  rw [lpart_at _ _ _ _ _ _ ht, if_neg (by omega), F.add_zero]
theorem lpart_set (q : List F) (k : Nat) (c : F) (i : Nat) (r : List F) (h : k + i < r.length) : (lpart q k c i r).set (k + i) (at_ (lpart q k c i r) (k + i) + c * at_ q i) = lpart q k c (i + 1) r := by
  apply ext_at (by rw [List.length_set, lpart_len, lpart_len])
  intro t ht
  rw [List.length_set, lpart_len] at ht
  rw [at_set _ _ _ (by rw [lpart_len]; exact h), lpart_at _ _ _ _ _ _ ht, lpart_at _ _ _ _ _ _ ht, lpart_at _ _ _ _ _ _ h]
  by_cases e : t = k + i
  · subst e
    rw [if_pos rfl, if_neg (by omega), if_pos (by omega), F.add_zero, show k + i - k = i by omega]
  · rw [if_neg e]
    by_cases g : k ≤ t ∧ t < k + i
    · rw [if_pos g, if_pos (by omega)]
    · rw [if_neg g, if_neg (by omega)]
/-- What is left after j steps. -/
def lrest (p q : List F) (n : Nat) : Nat → List F
  | 0 => p
  | j + 1 => lpart q (n - 1 - j) (at_ (lrest p q n j) (n - 1 - j + (q.length - 1))) q.length (lrest p q n j)
theorem lrest_len (p q : List F) (n : Nat) : ∀ j, (lrest p q n j).length = p.length
  | 0 => rfl
  | j + 1 => by rw [lrest, lpart_len, lrest_len p q n j]
theorem cf_succ (g q : List F) (n k : Nat) : cf g q (n + 1) k = cf g q n k + (if n ≤ k then at_ g n * at_ q (k - n) else 0) := sm_succ n _
theorem lrest_at (p q g : List F) (m n : Nat) (r : Nat → F) (hq : q.length = m + 1) (h1 : at_ q m = 1) (hp : p.length = n + m) (hr : ∀ i, m ≤ i → r i = 0) (h : ∀ i, at_ p i = cf g q n i + r i) :
    ∀ j, j ≤ n → (∀ i, at_ (lrest p q n j) i = cf g q (n - j) i + r i) := by
  intro j
  induction j with
  | zero => intro _ i; exact h i
  | succ j ih =>
    intro hj i
    have ih := ih (by omega)
    obtain ⟨t, ht⟩ : ∃ t, n - j = t + 1 := ⟨n - j - 1, by omega⟩
    have e1 : n - 1 - j = t := by omega
    have e2 : n - (j + 1) = t := by omega
    rw [ht] at ih
    have hqz : ∀ k, m < k → at_ q k = 0 := fun k hk => at_ge (by omega)
    have hc : at_ (lrest p q n j) (t + m) = at_ g t := by
      rw [ih (t + m), cf_succ, if_pos (by omega), show t + m - t = m by omega, h1, F.mul_one, hr _ (by omega), F.add_zero]
      have : cf g q t (t + m) = 0 := sm_zero fun i hi => by rw [if_pos (by omega), hqz _ (by omega), F.mul_zero]
      rw [this, F.zero_add]
    rw [lrest, e1, e2, hq, show m + 1 - 1 = m by omega, hc]
    by_cases hil : i < (lrest p q n j).length
    · rw [lpart_at _ _ _ _ _ _ hil, ih i, cf_succ]
      by_cases g1 : t ≤ i
      · rw [if_pos g1]
        by_cases g2 : i < t + (m + 1)
        · rw [if_pos ⟨g1, g2⟩]
          have := F.add_self (at_ g t * at_ q (i - t))
          calc cf g q t i + at_ g t * at_ q (i - t) + r i + at_ g t * at_ q (i - t) = cf g q t i + r i + (at_ g t * at_ q (i - t) + at_ g t * at_ q (i - t)) := by ac_rfl
            _ = _ := by rw [this, F.add_zero]
        · rw [if_neg (fun e => g2 e.2), hqz (i - t) (by omega), F.mul_zero, F.add_zero, F.add_zero]
      · rw [if_neg g1, if_neg (fun e => g1 e.1), F.add_zero, F.add_zero]
    · have hz : at_ (lpart q t (at_ g t) (m + 1) (lrest p q n j)) i = 0 := at_ge (by rw [lpart_len]; omega)
      have hz2 := ih i
      rw [at_ge (by omega), cf_succ] at hz2
      have hln := lrest_len p q n j
      have : (if t ≤ i then at_ g t * at_ q (i - t) else 0) = 0 := by
        rw [if_pos (by omega), hqz _ (by omega), F.mul_zero]
      rw [this, F.add_zero] at hz2
      rw [hz, ← hz2]
theorem lrest_top (p q g : List F) (m n : Nat) (r : Nat → F) (hq : q.length = m + 1) (h1 : at_ q m = 1) (hp : p.length = n + m) (hr : ∀ i, m ≤ i → r i = 0) (h : ∀ i, at_ p i = cf g q n i + r i) (j : Nat) (hj : j < n) :
    at_ (lrest p q n j) (n - 1 - j + m) = at_ g (n - 1 - j) := by
  rw [lrest_at p q g m n r hq h1 hp hr h j (by omega)]
  obtain ⟨t, ht⟩ : ∃ t, n - j = t + 1 := ⟨n - j - 1, by omega⟩
  have e1 : n - 1 - j = t := by omega
  rw [ht, e1, cf_succ, if_pos (by omega), show t + m - t = m by omega, h1, F.mul_one, hr _ (by omega), F.add_zero]
  have : cf g q t (t + m) = 0 := sm_zero fun i hi => by rw [if_pos (by omega), at_ge (p := q) (by omega), F.mul_zero]
  rw [this, F.zero_add]
/-- Divided by the polynomial of bytes, place by place. -/
theorem lrest_qts (p xs : List F) (hp : p.length ≤ 256) (hx : xs.length ≤ p.length) (j : Nat) (hj : j < p.length - xs.length) :
    at_ (lrest p (rt xs) (p.length - xs.length) j) (p.length - xs.length - 1 - j + ((rt xs).length - 1)) = at_ (qts xs p) (p.length - xs.length - 1 - j) := by
  obtain ⟨R, hl, h⟩ := qts_at p xs hp hx
  rw [qts_len] at h
  have e : (rt xs).length - 1 = xs.length := by rw [rt_len]; omega
  rw [e]
  exact lrest_top p (rt xs) (qts xs p) xs.length (p.length - xs.length) (at_ R) (rt_len xs) (rt_top xs) (by omega) (fun i hi => at_ge (by omega)) h j hj
/-- The quotient, as far as it is known. -/
def gTo (g : List F) (k : Nat) : List F := (List.range g.length).map fun j => if k ≤ j then at_ g j else 0
theorem gTo_len (g : List F) (k : Nat) : (gTo g k).length = g.length := by simp [gTo]
theorem gTo_at (g : List F) (k j : Nat) (h : j < g.length) : at_ (gTo g k) j = if k ≤ j then at_ g j else 0 := by simp [gTo, List.getD_eq_getElem?_getD, h]
theorem gTo_start (g : List F) : gTo g g.length = List.replicate g.length 0 := by
  apply ext_at (by rw [gTo_len, List.length_replicate])
  intro j hj
  rw [gTo_len] at hj
  rw [gTo_at _ _ _ hj, if_neg (by omega)]
  simp [at_, List.getD_eq_getElem?_getD, hj]
theorem gTo_set (g : List F) (j : Nat) (h : j < g.length) : (gTo g (j + 1)).set j (at_ g j) = gTo g j := by
  apply ext_at (by rw [List.length_set, gTo_len, gTo_len])
  intro t ht
  rw [List.length_set, gTo_len] at ht
  rw [at_set _ _ _ (by rw [gTo_len]; exact h), gTo_at _ _ _ ht, gTo_at _ _ _ ht]
  by_cases e : t = j
  · rw [if_pos e, if_pos (by omega), e]
  · rw [if_neg e]
    by_cases g1 : j + 1 ≤ t
    · rw [if_pos g1, if_pos (by omega)]
    · rw [if_neg g1, if_neg (by omega)]
theorem gTo_0 (g : List F) : gTo g 0 = g := by
  apply ext_at (gTo_len _ _)
  intro j hj
  rw [gTo_len] at hj
  rw [gTo_at _ _ _ hj, if_pos (Nat.zero_le _)]
theorem rt_one (c : F) : rt [c] = [c, 1] := by
  apply ext_at (by rw [rt_len]; rfl)
  intro k _
  refine uniq all_nodup (by rw [all_length, rt_len]; simp) (by rw [all_length]; simp) (fun x _ => ?_) k
  rw [ev_rt_pl, pl_one, ev_lin]
/-- A polynomial that is 0 at all bytes is a multiple. -/
theorem qts_exact (p xs : List F) (hn : xs.Nodup) (h : ∀ x ∈ xs, ev x p = 0) (x : F) : ev x (qts xs p) * ev x (rt xs) = ev x p := by
  obtain ⟨R, hl, he⟩ := qts_ev p xs
  have hz : ∀ k, at_ R k = 0 := zero_of_roots xs hn R hl fun y hy => by
    have := he y
    rw [h y hy, (ev_rt y xs).2 hy, F.mul_zero, F.zero_add] at this
    exact this.symm
  have : ev x R = 0 := by
    rw [ev_sum]
    exact sm_zero fun k _ => by rw [hz k, F.zero_mul]
  rw [he x, this, F.add_zero]
end Go.Proofs.Sh

/- Blobs rebuilt of shares: plain. -/
namespace Go.Proofs.Sh
open F
/-- The stripes, out of what each share counts. -/
def rowsOf (xs sec : List F) (sh : List (List F)) (n : Nat) : List (List F) := (List.range n).map fun j => sec.map fun x => dot (wts xs x) (colOf sh j)
theorem rowsOf_len (xs sec : List F) (sh : List (List F)) (n : Nat) : (rowsOf xs sec sh n).length = n := by simp [rowsOf]
theorem rowsOf_at (xs sec : List F) (sh : List (List F)) (n j : Nat) (h : j < n) : (rowsOf xs sec sh n).getD j [] = sec.map fun x => dot (wts xs x) (colOf sh j) := by simp [rowsOf, List.getD_eq_getElem?_getD, h]
theorem rowsOf_snoc (xs sec : List F) (sh : List (List F)) (n : Nat) : rowsOf xs sec sh (n + 1) = rowsOf xs sec sh n ++ [sec.map fun x => dot (wts xs x) (colOf sh n)] := by simp [rowsOf, List.range_succ]
/-- The blob, byte by byte. -/
def refBlob (xs sec : List F) (L : Nat) (sh : List (List F)) (size : Nat) : List F := (List.range size).map fun i => ev (sec.getD (i % L) 0) (nwt xs (colOf sh (i / L)) xs.length)
theorem refBlob_snoc (xs sec : List F) (L : Nat) (sh : List (List F)) (n : Nat) : refBlob xs sec L sh (n + 1) = refBlob xs sec L sh n ++ [ev (sec.getD (n % L) 0) (nwt xs (colOf sh (n / L)) xs.length)] := by simp [refBlob, List.range_succ]
theorem map_getD {α β : Type} (l : List α) (f : α → β) (z : α) (u : β) (k : Nat) (h : k < l.length) : (l.map f).getD k u = f (l.getD k z) := by simp [List.getD_eq_getElem?_getD, h]
theorem join_rows {xs sec : List F} (hn : xs.Nodup) (h : xs.length < 255) (L : Nat) (hL : 0 < L) (hsl : sec.length = L) (sh : List (List F)) (n size : Nat) (hs : size ≤ n * L) : joinOf L (rowsOf xs sec sh n) size = refBlob xs sec L sh size := by
  unfold joinOf refBlob
  refine List.map_congr_left fun i hi => ?_
  have hi := List.mem_range.1 hi
  have h1 : i / L < n := by
    rw [Nat.div_lt_iff_lt_mul hL]; omega
  have h2 : i % L < sec.length := by rw [hsl]; exact Nat.mod_lt _ hL
  rw [rowsOf_at _ _ _ _ _ h1, map_getD sec _ 0 0 _ h2, dot_wts _ _ _ h, nwt_thr hn h]
/-- The shares' bytes are a polynomial's values. -/
theorem rows_ev {xs sec : List F} (hn : xs.Nodup) (h : xs.length < 255) (sh : List (List F)) (n : Nat) (E : Nat → List F) (hE : ∀ j, j < n → (E j).length ≤ xs.length) (hs : ∀ j, j < n → colOf sh j = xs.map fun c => ev c (E j)) :
    rowsOf xs sec sh n = (List.range n).map fun j => sec.map fun x => ev x (E j) := by
  unfold rowsOf
  refine List.map_congr_left fun j hj => ?_
  have hj := List.mem_range.1 hj
  refine List.map_congr_left fun x _ => ?_
  rw [hs j hj, dot_wts_ev hn h (hE j hj)]
/-- All shares agree: those that are not needed with those that are. -/
def agr (xs all : List F) (K : Nat) (sh : List (List F)) (n : Nat) : Prop := ∀ k, K ≤ k → k < all.length → ∀ j, j < n → dot (wts xs (all.getD k 0)) (colOf (sh.take K) j) = (sh.getD k []).getD j 0
/-- .. each with the polynomial through them. -/
def agrR (xs all : List F) (K : Nat) (sh : List (List F)) (n : Nat) : Prop := ∀ j, j < n → ∀ i, i < all.length → ev (all.getD i 0) (nwt xs (colOf (sh.take K) j) xs.length) = (sh.getD i []).getD j 0
theorem take_getD {α : Type} (l : List α) (z : α) (K k : Nat) (h : k < K) : (l.take K).getD k z = l.getD k z := by
  simp [List.getD_eq_getElem?_getD, h]
theorem agr_iff {xs all : List F} (K : Nat) (hx : xs = all.take K) (hK : K ≤ all.length) (hn : xs.Nodup) (h : xs.length < 255) (sh : List (List F)) (hl : sh.length = all.length) (n : Nat) : agr xs all K sh n ↔ agrR xs all K sh n := by
  have hxl : xs.length = K := by rw [hx, List.length_take]; omega
  constructor
  · intro ha j hj i hi
    rw [nwt_thr hn h]
    by_cases hik : i < K
    · have e1 : all.getD i 0 = xs.getD i 0 := by rw [hx, take_getD _ _ _ _ hik]
      rw [e1, thr_at _ hn i (by omega) h, colOf_at _ _ _ (by rw [List.length_take]; omega), take_getD _ _ _ _ hik]
    · rw [← dot_wts _ _ _ h]
      exact ha i (by omega) hi j hj
  · intro ha k hk hkl j hj
    have := ha j hj k hkl
    rw [nwt_thr hn h, ← dot_wts _ _ _ h] at this
    exact this
/-- Of polynomials' values all agree. -/
theorem agr_ev {xs all : List F} (K : Nat) (hxl : xs.length ≤ 254) (hn : xs.Nodup) (sh : List (List F)) (n : Nat) (E : Nat → List F) (hE : ∀ j, j < n → (E j).length ≤ xs.length)
    (hs : ∀ j, j < n → colOf (sh.take K) j = xs.map fun c => ev c (E j)) (hr : ∀ k, k < all.length → ∀ j, j < n → (sh.getD k []).getD j 0 = ev (all.getD k 0) (E j)) : agr xs all K sh n := fun k _ hkl j hj => by
  rw [hs j hj, dot_wts_ev hn (by omega) (hE j hj), hr k hkl j hj]
/-- The shares of polynomials at the first custodians. -/
theorem col_ev (pts : List F) (K : Nat) (hK : K ≤ pts.length) (sh : List (List F)) (hl : sh.length = pts.length) (j : Nat) (e : List F) (hr : ∀ k, k < pts.length → (sh.getD k []).getD j 0 = ev (pts.getD k 0) e) : colOf (sh.take K) j = (pts.take K).map fun c => ev c e := by
  apply ext_at
  · rw [colOf_len, List.length_take, List.length_map, List.length_take]; omega
  · intro k hk
    rw [colOf_len, List.length_take] at hk
    show (colOf (sh.take K) j).getD k 0 = _
    have hk2 : k < (pts.take K).length := by rw [List.length_take]; omega
    rw [colOf_at _ _ _ (by rw [List.length_take]; omega), take_getD _ _ _ _ (by omega), hr k (by omega)]
    show _ = ((pts.take K).map fun c => ev c e).getD k 0
    rw [map_getD (pts.take K) _ 0 0 k hk2, take_getD _ _ _ _ (by omega)]
end Go.Proofs.Sh
