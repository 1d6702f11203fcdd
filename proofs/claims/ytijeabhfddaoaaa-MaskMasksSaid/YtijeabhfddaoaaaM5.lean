/- Plain: polynomials through points. -/
import Derived.Test.YtijeabhfddaoaaaM4
namespace Go.Proofs.Sh
namespace F
theorem ev_ext {p q : List F} (h : ∀ k, at_ p k = at_ q k) (x : F) : ev x p = ev x q := by
  rw [ev_sum' x p (max p.length q.length) (by omega), ev_sum' x q (max p.length q.length) (by omega)]
  exact sm_congr fun i _ => by rw [h]
theorem ev_one (x a : F) : ev x [a] = a := by show a + 0 * x = a; rw [zero_mul, add_zero]
theorem ev_over (c x : F) (p : List F) : ev x p = ev x (qt c p) * (c + x) + ev c p := by
  rw [← ev_ext (over_back c p) x, ev_padd, ev_pmul, ev_lin, ev_one]
theorem zero_of_roots : ∀ (xs : List F), xs.Nodup → ∀ p : List F, p.length ≤ xs.length → (∀ x ∈ xs, ev x p = 0) → ∀ k, at_ p k = 0
  | [], _, p, hl, _, k => at_ge (by simp at hl; simp [hl])
  | c :: xs, hn, p, hl, h, k => by
    have hc := h c (List.mem_cons_self ..)
    have hq : ∀ x ∈ xs, ev x (qt c p) = 0 := fun x hx => by
      have h1 := h x (List.mem_cons_of_mem _ hx)
      rw [ev_over c x p, hc, add_zero] at h1
      rcases mul_eq_zero.1 h1 with h2 | h2
      · exact h2
      · exfalso
        have : c = x := eq_of_add h2
        subst this
        exact (List.nodup_cons.1 hn).1 hx
    have ih := zero_of_roots xs (List.nodup_cons.1 hn).2 (qt c p) (by rw [qt_len]; simp at hl; omega) hq
    rw [over_at c p k, ih, zero_mul, zero_add]
    split
    · exact hc
    · exact ih _
theorem padd_self (p q : List F) (k : Nat) : at_ (padd p q) k = 0 ↔ at_ p k = at_ q k := by rw [padd_at, add_eq_zero]
/-- Two polynomials of at most so many places that have the same values are one. -/
theorem uniq {xs p q : List F} (hn : xs.Nodup) (hp : p.length ≤ xs.length) (hq : q.length ≤ xs.length) (h : ∀ x ∈ xs, ev x p = ev x q) (k : Nat) : at_ p k = at_ q k :=
  (padd_self p q k).1 (zero_of_roots xs hn _ (by rw [padd_len]; omega) (fun x hx => by rw [ev_padd, h x hx, add_self]) k)
/-- All bytes. -/
def all : List F := (List.range 256).map F.of
theorem all_nodup : all.Nodup := by
  unfold all
  refine List.pairwise_map.2 (List.Pairwise.imp_of_mem ?_ (List.nodup_range (n := 256)))
  intro a b ha hb hne e
  have := congrArg F.n e
  rw [F.n_of (List.mem_range.1 ha), F.n_of (List.mem_range.1 hb)] at this
  exact hne this
theorem mem_all (x : F) : x ∈ all := List.mem_map.2 ⟨x.n, List.mem_range.2 x.n_lt, F.n_inj (F.n_of x.n_lt)⟩
theorem all_length : all.length = 256 := by simp [all]
/-- Two polynomials of at most 255 places that have the same values but at one byte are one. -/
theorem uniq_but {p q : List F} (c : F) (hp : p.length ≤ 255) (hq : q.length ≤ 255) (h : ∀ x, x ≠ c → ev x p = ev x q) (k : Nat) : at_ p k = at_ q k := by
  have hl : (all.erase c).length = 255 := by rw [List.length_erase_of_mem (mem_all c), all_length]
  refine uniq (xs := all.erase c) (all_nodup.erase c) (by omega) (by omega) (fun x hx => h x ?_) k
  exact ((all_nodup.mem_erase_iff).1 hx).1
/-! ### products -/
def pl (x : F) : List F → F
  | [] => 1
  | c :: l => (c + x) * pl x l
theorem pl_append (x : F) : ∀ a b : List F, pl x (a ++ b) = pl x a * pl x b
  | [], b => (one_mul _).symm
  | c :: a, b => by show (c + x) * pl x (a ++ b) = (c + x) * pl x a * pl x b; rw [pl_append x a b, mul_assoc]
theorem pl_one (x c : F) : pl x [c] = c + x := mul_one _
theorem ev_rt_pl (x : F) (xs : List F) : ev x (rt xs) = pl x xs := by
  induction xs using snoc_ind with
  | h0 => exact ev_one x 1
  | h xs c ih => rw [rt_snoc, ev_pmul, ev_lin, ih, pl_append, pl_one]
theorem pl_ne {x : F} : ∀ {l : List F}, x ∉ l → pl x l ≠ 0
  | [], _ => one_ne
  | c :: l, h => mul_ne (fun e => h (by rw [eq_of_add e]; exact List.mem_cons_self ..)) (pl_ne (fun e => h (List.mem_cons_of_mem _ e)))
theorem inv_mul_eq {a b : F} : inv (a * b) = inv a * inv b := by
  by_cases ha : a = 0
  · rw [ha, zero_mul, inv_zero, zero_mul]
  by_cases hb : b = 0
  · rw [hb, mul_zero, inv_zero, mul_zero]
  refine (eq_inv ?_).symm
  rw [show a * b * (inv a * inv b) = a * inv a * (b * inv b) from by ac_rfl, mul_inv ha, mul_inv hb, mul_one]
/-- The first k but the i-th. -/
def but (xs : List F) (i : Nat) : Nat → List F
  | 0 => []
  | k + 1 => if k = i then but xs i k else but xs i k ++ [xs.getD k 0]
theorem pl_but (x : F) (xs : List F) (i : Nat) : ∀ k, k ≤ xs.length → pl x (xs.take k) = pl x (but xs i k) * (if i < k then xs.getD i 0 + x else 1)
  | 0, _ => by show (1 : F) = 1 * 1; rw [mul_one]
  | k + 1, h => by
    have ih := pl_but x xs i k (by omega)
    have ht : xs.take (k + 1) = xs.take k ++ [xs.getD k 0] := by
      have h : k < xs.length := h
      rw [List.take_succ_eq_append_getElem h]
      simp [List.getD_eq_getElem?_getD, h]
    rw [ht, pl_append, pl_one, ih]
    show _ = pl x (if k = i then but xs i k else but xs i k ++ [xs.getD k 0]) * _
    by_cases e : k = i
    · subst e
      rw [if_neg (Nat.lt_irrefl _), if_pos rfl, if_pos (Nat.lt_succ_self _), mul_one]
    · rw [if_neg e, pl_append, pl_one]
      by_cases e2 : i < k
      · rw [if_pos e2, if_pos (by omega)]; ac_rfl
      · rw [if_neg e2, if_neg (by omega)]; ac_rfl
theorem mem_but {xs : List F} {i : Nat} {y : F} : ∀ {k}, y ∈ but xs i k → ∃ j, j < k ∧ j ≠ i ∧ y = xs.getD j 0
  | k + 1, h => by
    by_cases e : k = i
    · have h' : y ∈ but xs i k := by simpa [but, e] using h
      obtain ⟨j, hj, h1, h2⟩ := mem_but h'
      exact ⟨j, by omega, h1, h2⟩
    · have h' : y ∈ but xs i k ++ [xs.getD k 0] := by
        have : but xs i (k + 1) = but xs i k ++ [xs.getD k 0] := if_neg e
        rwa [this] at h
      rcases List.mem_append.1 h' with h | h
      · obtain ⟨j, hj, h1, h2⟩ := mem_but h
        exact ⟨j, by omega, h1, h2⟩
      · exact ⟨k, by omega, e, List.mem_singleton.1 h⟩
theorem getD_inj {xs : List F} (hn : xs.Nodup) {i j : Nat} (hi : i < xs.length) (hj : j < xs.length) (e : xs.getD i 0 = xs.getD j 0) : i = j := by
  have e' : xs[i] = xs[j] := by simpa [List.getD_eq_getElem?_getD, hi, hj] using e
  have hp := List.pairwise_iff_getElem.1 hn
  rcases Nat.lt_trichotomy i j with h | h | h
  · exact (hp i j hi hj h e').elim
  · exact h
  · exact (hp j i hj hi h e'.symm).elim
theorem but_free {xs : List F} (hn : xs.Nodup) {i k : Nat} (hi : i < xs.length) (hk : k ≤ xs.length) : xs.getD i 0 ∉ but xs i k := fun h => by
  obtain ⟨j, hj, h1, h2⟩ := mem_but h
  exact h1 (getD_inj hn (by omega) hi h2.symm)
theorem but_len (xs : List F) (i : Nat) : ∀ k, (but xs i k).length ≤ k
  | 0 => Nat.le_refl _
  | k + 1 => by
    have := but_len xs i k
    unfold but
    split
    · omega
    · rw [List.length_append]; simp; omega
/-- The polynomial that is 0 at all points but the i-th. -/
abbrev hole (xs : List F) (i : Nat) : List F := qt (xs.getD i 0) (rt xs)
theorem hole_len (xs : List F) (i : Nat) : (hole xs i).length = xs.length := by rw [qt_len, rt_len]; rfl
theorem ev_hole {xs : List F} (i : Nat) (hi : i < xs.length) (h : xs.length < 255) (x : F) : ev x (hole xs i) = pl x (but xs i xs.length) := by
  rw [← ev_rt_pl]
  refine ev_ext (uniq_but (xs.getD i 0) (by rw [hole_len]; omega) (by rw [rt_len]; have := but_len xs i xs.length; omega) (fun y hy => ?_)) x
  have h1 := ev_over (xs.getD i 0) y (rt xs)
  have h2 : ev (xs.getD i 0) (rt xs) = 0 := (ev_rt _ _).2 (by
    rw [List.getD_eq_getElem?_getD, List.getElem?_eq_getElem hi]
    exact List.getElem_mem hi)
  rw [h2, add_zero, ev_rt_pl] at h1
  have h3 := pl_but y xs i xs.length (Nat.le_refl _)
  rw [List.take_length, if_pos hi, h1] at h3
  have hne : xs.getD i 0 + y ≠ 0 := fun e => hy (eq_of_add e).symm
  rw [ev_rt_pl]
  exact mul_cancel hne (by rw [mul_comm, h3, mul_comm])
theorem hole_at {xs : List F} (hn : xs.Nodup) (i j : Nat) (hi : i < xs.length) (hj : j < xs.length) (h : xs.length < 255) : (ev (xs.getD j 0) (hole xs i) = 0) ↔ j ≠ i := by
  constructor
  · intro h0 e
    subst e
    rw [ev_hole j hi h] at h0
    exact pl_ne (but_free hn hi (Nat.le_refl _)) h0
  · intro e
    have h1 := ev_over (xs.getD i 0) (xs.getD j 0) (rt xs)
    have hm : ∀ k, k < xs.length → ev (xs.getD k 0) (rt xs) = 0 := fun k hk => (ev_rt _ _).2 (by
      rw [List.getD_eq_getElem?_getD, List.getElem?_eq_getElem hk]
      exact List.getElem_mem hk)
    rw [hm i hi, hm j hj, add_zero] at h1
    rcases mul_eq_zero.1 h1.symm with h2 | h2
    · exact h2
    · exact (e (getD_inj hn hj hi (eq_of_add h2).symm)).elim
/-- The polynomial that is 1 at the i-th point, and 0 at all others. -/
def bas (xs : List F) (i : Nat) : List F := psc (inv (ev (xs.getD i 0) (hole xs i))) (hole xs i)
theorem bas_len (xs : List F) (i : Nat) : (bas xs i).length = xs.length := by rw [bas, List.length_map, hole_len]
theorem ev_bas {xs : List F} (hn : xs.Nodup) (i j : Nat) (hi : i < xs.length) (hj : j < xs.length) (h : xs.length < 255) : ev (xs.getD j 0) (bas xs i) = if j = i then 1 else 0 := by
  unfold bas
  rw [ev_psc]
  by_cases e : j = i
  · subst e
    rw [if_pos rfl, mul_inv (fun e => (hole_at hn j j hi hj h).1 e rfl)]
  · rw [if_neg e, (hole_at hn i j hi hj h).2 e, zero_mul]
/-- The weight of the i-th value at x, after k factors. -/
def wtTo (xs : List F) (i : Nat) (x : F) : Nat → F
  | 0 => 1
  | k + 1 => if k = i then wtTo xs i x k else wtTo xs i x k * ((x + xs.getD k 0) * inv (xs.getD i 0 + xs.getD k 0))
abbrev wt (xs : List F) (x : F) (i : Nat) : F := wtTo xs i x xs.length
theorem wtTo_eq (xs : List F) (i : Nat) (x : F) : ∀ k, wtTo xs i x k = pl x (but xs i k) * inv (pl (xs.getD i 0) (but xs i k))
  | 0 => by show (1 : F) = 1 * inv 1; decide +kernel
  | k + 1 => by
    have ih := wtTo_eq xs i x k
    unfold wtTo but
    by_cases e : k = i
    · rw [if_pos e, if_pos e, ih]
    · rw [if_neg e, if_neg e, ih, pl_append, pl_append, pl_one, pl_one, inv_mul_eq, add_comm x, add_comm (xs.getD i 0)]
      ac_rfl
/-- What the code reckons is the document's weight. -/
theorem ev_bas_wt (xs : List F) (x : F) (i : Nat) (hi : i < xs.length) (h : xs.length < 255) : ev x (bas xs i) = wt xs x i := by
  unfold bas
  rw [ev_psc, wt, wtTo_eq, ev_hole i hi h, ev_hole i hi h]
/-- The polynomial through points as the code makes it: the first k of them. -/
def thr (xs ys : List F) : Nat → List F
  | 0 => List.replicate xs.length 0
  | k + 1 => padd (thr xs ys k) (psc (ys.getD k 0) (bas xs k))
theorem thr_len (xs ys : List F) : ∀ k, (thr xs ys k).length = xs.length
  | 0 => List.length_replicate
  | k + 1 => by
    show (padd (thr xs ys k) _).length = _
    rw [padd_len, thr_len xs ys k, List.length_map, bas_len]; omega
theorem ev_zeros (x : F) (n : Nat) : ev x (List.replicate n 0) = 0 := by
  induction n with
  | zero => rfl
  | succ n ih => rw [List.replicate_succ, ev_cons, ih, zero_mul, add_zero]
theorem ev_thr (xs ys : List F) (x : F) : ∀ k, ev x (thr xs ys k) = sm k (fun i => ev x (bas xs i) * ys.getD i 0)
  | 0 => ev_zeros x _
  | k + 1 => by
    show ev x (padd (thr xs ys k) _) = _
    rw [ev_padd, ev_psc, ev_thr xs ys x k, sm_succ]
theorem thr_at {xs : List F} (ys : List F) (hn : xs.Nodup) (j : Nat) (hj : j < xs.length) (h : xs.length < 255) : ev (xs.getD j 0) (thr xs ys xs.length) = ys.getD j 0 := by
  rw [ev_thr, sm_one j hj (fun i hi hne => by rw [ev_bas hn i j hi hj h, if_neg (fun e => hne e.symm), zero_mul]), ev_bas hn j j hj hj h, if_pos rfl, one_mul]
/-- Through the points: every list of so many places with these values is the one. -/
theorem thr_uniq {xs ys p : List F} (hn : xs.Nodup) (h : xs.length < 255) (hp : p.length ≤ xs.length) (hv : ∀ j, j < xs.length → ev (xs.getD j 0) p = ys.getD j 0) (k : Nat) : at_ (thr xs ys xs.length) k = at_ p k := by
  refine uniq hn (by rw [thr_len]; omega) hp (fun x hx => ?_) k
  obtain ⟨j, hj, rfl⟩ := List.getElem_of_mem hx
  have e : xs.getD j 0 = xs[j] := by simp [List.getD_eq_getElem?_getD, hj]
  rw [← e, thr_at ys hn j hj h, hv j hj]
/-! ### Newton's way -/
def nwt (xs ys : List F) : Nat → List F
  | 0 => []
  | k + 1 => padd (nwt xs ys k) (psc ((ys.getD k 0 + ev (xs.getD k 0) (nwt xs ys k)) * inv (ev (xs.getD k 0) (rt (xs.take k)))) (rt (xs.take k)))
theorem nwt_len (xs ys : List F) : ∀ k, k ≤ xs.length → (nwt xs ys k).length = k
  | 0, _ => rfl
  | k + 1, h => by
    show (padd (nwt xs ys k) _).length = _
    rw [padd_len, nwt_len xs ys k (by omega), List.length_map, rt_len, List.length_take]; omega
theorem take_free {xs : List F} (hn : xs.Nodup) (k : Nat) (hk : k < xs.length) : xs.getD k 0 ∉ xs.take k := fun h => by
  obtain ⟨j, hj, e⟩ := List.getElem_of_mem h
  rw [List.length_take] at hj
  have hj' : j < xs.length := by omega
  have : j = k := getD_inj hn hj' hk (by
    rw [← e]
    simp [List.getD_eq_getElem?_getD, hj'])
  omega
theorem nwt_at {xs : List F} (ys : List F) (hn : xs.Nodup) : ∀ k, k ≤ xs.length → ∀ j, j < k → ev (xs.getD j 0) (nwt xs ys k) = ys.getD j 0
  | k + 1, hk, j, hj => by
    show ev (xs.getD j 0) (padd (nwt xs ys k) _) = _
    rw [ev_padd, ev_psc]
    by_cases e : j = k
    · subst e
      have hne : ev (xs.getD j 0) (rt (xs.take j)) ≠ 0 := fun h0 => take_free hn j (by omega) ((ev_rt _ _).1 h0)
      rw [mul_comm, mul_assoc, inv_mul hne, mul_one, add_comm (ys.getD j 0), ← add_assoc, add_self, zero_add]
    · have h0 : ev (xs.getD j 0) (rt (xs.take k)) = 0 := (ev_rt _ _).2 (by
        have hj' : j < (xs.take k).length := by rw [List.length_take]; omega
        have := List.getElem_mem hj'
        simpa [List.getD_eq_getElem?_getD, show j < xs.length by omega] using this)
      rw [h0, zero_mul, add_zero]
      exact nwt_at ys hn k (by omega) j (by omega)
theorem nwt_thr {xs ys : List F} (hn : xs.Nodup) (h : xs.length < 255) : nwt xs ys xs.length = thr xs ys xs.length := by
  have hl := nwt_len xs ys xs.length (Nat.le_refl _)
  refine ext_at (by rw [hl, thr_len]) (fun k _ => (thr_uniq hn h (by omega) (fun j hj => nwt_at ys hn _ (Nat.le_refl _) j hj) k).symm)
/-! ### sums of products by places -/
theorem dot_sm : ∀ (l m : List F), dot l m = sm l.length (fun i => l.getD i 0 * m.getD i 0)
  | [], m => rfl
  | a :: l, [] => by
    rw [dot_nil_r, sm_zero]
    intro i _
    show _ * ([] : List F).getD i 0 = 0
    simp [mul_zero]
  | a :: l, b :: m => by
    rw [List.length_cons, sm_first]
    show a * b + dot l m = _
    rw [dot_sm l m]
    rfl
/-- The weights. -/
def wts (xs : List F) (x : F) : List F := (List.range xs.length).map (wt xs x)
theorem wts_len (xs : List F) (x : F) : (wts xs x).length = xs.length := by simp [wts]
theorem wts_at (xs : List F) (x : F) (i : Nat) (hi : i < xs.length) : (wts xs x).getD i 0 = wt xs x i := by simp [wts, List.getD_eq_getElem?_getD, hi]
/-- The first k weights, and zeros. -/
def wtsTo (xs : List F) (x : F) (k : Nat) : List F := (List.range xs.length).map (fun i => if i < k then wt xs x i else 0)
theorem wtsTo_len (xs : List F) (x : F) (k : Nat) : (wtsTo xs x k).length = xs.length := by simp [wtsTo]
theorem wtsTo_at (xs : List F) (x : F) (k i : Nat) (hi : i < xs.length) : at_ (wtsTo xs x k) i = if i < k then wt xs x i else 0 := by simp [wtsTo, at_, List.getD_eq_getElem?_getD, hi]
theorem wtsTo_0 (xs : List F) (x : F) : wtsTo xs x 0 = List.replicate xs.length 0 := by
  apply ext_at (by rw [wtsTo_len, List.length_replicate])
  intro k hk
  rw [wtsTo_len] at hk
  rw [wtsTo_at _ _ _ _ hk, if_neg (by omega)]
  simp [at_, List.getD_eq_getElem?_getD, hk]
theorem wtsTo_all (xs : List F) (x : F) : wtsTo xs x xs.length = wts xs x := by
  unfold wtsTo wts
  exact List.map_congr_left fun j hj => if_pos (List.mem_range.1 hj)
theorem wtsTo_set (xs : List F) (x : F) (k : Nat) (hk : k < xs.length) : (wtsTo xs x k).set k (wt xs x k) = wtsTo xs x (k + 1) := by
  apply ext_at (by rw [List.length_set, wtsTo_len, wtsTo_len])
  intro j hj
  rw [List.length_set, wtsTo_len] at hj
  rw [at_set _ _ _ (by rw [wtsTo_len]; omega), wtsTo_at _ _ _ _ hj, wtsTo_at _ _ _ _ hj]
  by_cases e : j = k
  · subst e
    rw [if_pos rfl, if_pos (by omega)]
  · rw [if_neg e]
    by_cases h2 : j < k
    · rw [if_pos h2, if_pos (by omega)]
    · rw [if_neg h2, if_neg (by omega)]
theorem dot_wts (xs ys : List F) (x : F) (h : xs.length < 255) : dot (wts xs x) ys = ev x (thr xs ys xs.length) := by
  rw [dot_sm, wts_len, ev_thr]
  exact sm_congr fun i hi => by rw [wts_at xs x i hi, ev_bas_wt xs x i hi h]
/-- Of every polynomial of so many places the value is the sum of its values, each times its weight. -/
theorem dot_wts_ev {xs p : List F} (hn : xs.Nodup) (h : xs.length < 255) (hp : p.length ≤ xs.length) (x : F) : dot (wts xs x) (xs.map fun c => ev c p) = ev x p := by
  rw [dot_wts xs _ x h]
  exact ev_ext (thr_uniq hn h hp (fun j hj => by simp [List.getD_eq_getElem?_getD, hj])) x
end F
end Go.Proofs.Sh
