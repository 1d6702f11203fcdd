/- Division by a polynomial whose highest byte is 1, place by place: plain. -/
import Derived.Test.YtijeabhfddaoaaaM9
namespace Go.Proofs.Sh
open F
theorem qts_nil (p : List F) : qts [] p = p := rfl
theorem rt_nil : rt [] = [1] := rfl
theorem qts_ev (p : List F) : ∀ xs : List F, ∃ R : List F, R.length ≤ xs.length ∧ ∀ x, ev x p = ev x (qts xs p) * ev x (rt xs) + ev x R := snoc_ind
  ⟨[], Nat.le_refl _, fun x => by rw [qts_nil, rt_nil, ev_one, F.mul_one, ev_nil, F.add_zero]⟩
  (fun xs c ⟨R, hl, h⟩ => ⟨padd R (psc (ev c (qts xs p)) (rt xs)), by rw [padd_len, List.length_map, rt_len, List.length_append, List.length_singleton]; omega, fun x => by
    rw [h x, qts_snoc, rt_snoc, ev_pmul, ev_lin, ev_padd, ev_psc, ev_over c x (qts xs p), F.add_mul]
    ac_rfl⟩)
/-- With coefficients. -/
theorem qts_at (p xs : List F) (hp : p.length ≤ 256) (hx : xs.length ≤ p.length) : ∃ R : List F, R.length ≤ xs.length ∧ ∀ k, at_ p k = cf (qts xs p) (rt xs) (qts xs p).length k + at_ R k := by
  obtain ⟨R, hl, h⟩ := qts_ev p xs
  refine ⟨R, hl, fun k => ?_⟩
  have hpl : (pmul (qts xs p) (rt xs)).length ≤ 256 := by
    by_cases h0 : qts xs p = []
    · rw [h0, pmul_nil_l]; simp
    · rw [pmul_len h0 (rt_ne xs), qts_len, rt_len]; omega
  have := uniq all_nodup (p := p) (q := padd (pmul (qts xs p) (rt xs)) R) (by rw [all_length]; exact hp) (by rw [all_length, padd_len]; omega) (fun x _ => by rw [ev_padd, ev_pmul]; exact h x) k
  rw [this, padd_at, pmul_at]
/-- One step, as far as i. -/
def lpart (q : List F) (k : Nat) (c : F) (i : Nat) (r : List F) : List F := (List.range r.length).map fun t => at_ r t + (if k ≤ t ∧ t < k + i then c * at_ q (t - k) else 0)
theorem lpart_len (q : List F) (k : Nat) (c : F) (i : Nat) (r : List F) : (lpart q k c i r).length = r.length := by simp [lpart]
theorem lpart_at (q : List F) (k : Nat) (c : F) (i : Nat) (r : List F) (t : Nat) (h : t < r.length) : at_ (lpart q k c i r) t = at_ r t + (if k ≤ t ∧ t < k + i then c * at_ q (t - k) else 0) := by
  simp [lpart, List.getD_eq_getElem?_getD, h]
theorem lpart_0 (q : List F) (k : Nat) (c : F) (r : List F) : lpart q k c 0 r = r := by
  apply ext_at (lpart_len _ _ _ _ _)
  intro t ht
  rw [lpart_len] at ht
  rw [lpart_at _ _ _ _ _ _ ht, if_neg (by omega), F.add_zero]
theorem lpart_set (q : List F) (k : Nat) (c : F) (i : Nat) (r : List F) (h : k + i < r.length) : (lpart q k c i r).set (k + i) (at_ (lpart q k c i r) (k + i) + c * at_ q i) = lpart q k c (i + 1) r := by
  apply ext_at (by rw [List.length_set, lpart_len, lpart_len])
  intro t ht
  rw [List.length_set, lpart_len] at ht
  rw [at_set _ _ _ (by rw [lpart_len]; exact h), lpart_at _ _ _ _ _ _ ht, lpart_at _ _ _ _ _ _ ht, lpart_at _ _ _ _ _ _ h]
  by_cases e : t = k + i
  · subst e
    rw [if_pos rfl, if_neg (by omega), if_pos (by omega), F.add_zero, show k + i - k = i by omega]
  · rw [if_neg e]
    by_cases g : k ≤ t ∧ t < k + i
    · rw [if_pos g, if_pos (by omega)]
    · rw [if_neg g, if_neg (by omega)]
/-- What is left after j steps. -/
def lrest (p q : List F) (n : Nat) : Nat → List F
  | 0 => p
  | j + 1 => lpart q (n - 1 - j) (at_ (lrest p q n j) (n - 1 - j + (q.length - 1))) q.length (lrest p q n j)
theorem lrest_len (p q : List F) (n : Nat) : ∀ j, (lrest p q n j).length = p.length
  | 0 => rfl
  | j + 1 => by rw [lrest, lpart_len, lrest_len p q n j]
theorem cf_succ (g q : List F) (n k : Nat) : cf g q (n + 1) k = cf g q n k + (if n ≤ k then at_ g n * at_ q (k - n) else 0) := sm_succ n _
theorem lrest_at (p q g : List F) (m n : Nat) (r : Nat → F) (hq : q.length = m + 1) (h1 : at_ q m = 1) (hp : p.length = n + m) (hr : ∀ i, m ≤ i → r i = 0) (h : ∀ i, at_ p i = cf g q n i + r i) :
    ∀ j, j ≤ n → (∀ i, at_ (lrest p q n j) i = cf g q (n - j) i + r i) := by
  intro j
  induction j with
  | zero => intro _ i; exact h i
  | succ j ih =>
    intro hj i
    have ih := ih (by omega)
    obtain ⟨t, ht⟩ : ∃ t, n - j = t + 1 := ⟨n - j - 1, by omega⟩
    have e1 : n - 1 - j = t := by omega
    have e2 : n - (j + 1) = t := by omega
    rw [ht] at ih
    have hqz : ∀ k, m < k → at_ q k = 0 := fun k hk => at_ge (by omega)
    have hc : at_ (lrest p q n j) (t + m) = at_ g t := by
      rw [ih (t + m), cf_succ, if_pos (by omega), show t + m - t = m by omega, h1, F.mul_one, hr _ (by omega), F.add_zero]
      have : cf g q t (t + m) = 0 := sm_zero fun i hi => by rw [if_pos (by omega), hqz _ (by omega), F.mul_zero]
      rw [this, F.zero_add]
    rw [lrest, e1, e2, hq, show m + 1 - 1 = m by omega, hc]
    by_cases hil : i < (lrest p q n j).length
    · rw [lpart_at _ _ _ _ _ _ hil, ih i, cf_succ]
      by_cases g1 : t ≤ i
      · rw [if_pos g1]
        by_cases g2 : i < t + (m + 1)
        · rw [if_pos ⟨g1, g2⟩]
          have := F.add_self (at_ g t * at_ q (i - t))
          calc cf g q t i + at_ g t * at_ q (i - t) + r i + at_ g t * at_ q (i - t) = cf g q t i + r i + (at_ g t * at_ q (i - t) + at_ g t * at_ q (i - t)) := by ac_rfl
            _ = _ := by rw [this, F.add_zero]
        · rw [if_neg (fun e => g2 e.2), hqz (i - t) (by omega), F.mul_zero, F.add_zero, F.add_zero]
      · rw [if_neg g1, if_neg (fun e => g1 e.1), F.add_zero, F.add_zero]
    · have hz : at_ (lpart q t (at_ g t) (m + 1) (lrest p q n j)) i = 0 := at_ge (by rw [lpart_len]; omega)
      have hz2 := ih i
      rw [at_ge (by omega), cf_succ] at hz2
      have hln := lrest_len p q n j
      have : (if t ≤ i then at_ g t * at_ q (i - t) else 0) = 0 := by
        rw [if_pos (by omega), hqz _ (by omega), F.mul_zero]
      rw [this, F.add_zero] at hz2
      rw [hz, ← hz2]
theorem lrest_top (p q g : List F) (m n : Nat) (r : Nat → F) (hq : q.length = m + 1) (h1 : at_ q m = 1) (hp : p.length = n + m) (hr : ∀ i, m ≤ i → r i = 0) (h : ∀ i, at_ p i = cf g q n i + r i) (j : Nat) (hj : j < n) :
    at_ (lrest p q n j) (n - 1 - j + m) = at_ g (n - 1 - j) := by
  rw [lrest_at p q g m n r hq h1 hp hr h j (by omega)]
  obtain ⟨t, ht⟩ : ∃ t, n - j = t + 1 := ⟨n - j - 1, by omega⟩
  have e1 : n - 1 - j = t := by omega
  rw [ht, e1, cf_succ, if_pos (by omega), show t + m - t = m by omega, h1, F.mul_one, hr _ (by omega), F.add_zero]
  have : cf g q t (t + m) = 0 := sm_zero fun i hi => by rw [if_pos (by omega), at_ge (p := q) (by omega), F.mul_zero]
  rw [this, F.zero_add]
/-- Divided by the polynomial of bytes, place by place. -/
theorem lrest_qts (p xs : List F) (hp : p.length ≤ 256) (hx : xs.length ≤ p.length) (j : Nat) (hj : j < p.length - xs.length) :
    at_ (lrest p (rt xs) (p.length - xs.length) j) (p.length - xs.length - 1 - j + ((rt xs).length - 1)) = at_ (qts xs p) (p.length - xs.length - 1 - j) := by
  obtain ⟨R, hl, h⟩ := qts_at p xs hp hx
  rw [qts_len] at h
  have e : (rt xs).length - 1 = xs.length := by rw [rt_len]; omega
  rw [e]
  exact lrest_top p (rt xs) (qts xs p) xs.length (p.length - xs.length) (at_ R) (rt_len xs) (rt_top xs) (by omega) (fun i hi => at_ge (by omega)) h j hj
/-- The quotient, as far as it is known. -/
def gTo (g : List F) (k : Nat) : List F := (List.range g.length).map fun j => if k ≤ j then at_ g j else 0
theorem gTo_len (g : List F) (k : Nat) : (gTo g k).length = g.length := by simp [gTo]
theorem gTo_at (g : List F) (k j : Nat) (h : j < g.length) : at_ (gTo g k) j = if k ≤ j then at_ g j else 0 := by simp [gTo, List.getD_eq_getElem?_getD, h]
theorem gTo_start (g : List F) : gTo g g.length = List.replicate g.length 0 := by
  apply ext_at (by rw [gTo_len, List.length_replicate])
  intro j hj
  rw [gTo_len] at hj
  rw [gTo_at _ _ _ hj, if_neg (by omega)]
  simp [at_, List.getD_eq_getElem?_getD, hj]
theorem gTo_set (g : List F) (j : Nat) (h : j < g.length) : (gTo g (j + 1)).set j (at_ g j) = gTo g j := by
  apply ext_at (by rw [List.length_set, gTo_len, gTo_len])
  intro t ht
  rw [List.length_set, gTo_len] at ht
  rw [at_set _ _ _ (by rw [gTo_len]; exact h), gTo_at _ _ _ ht, gTo_at _ _ _ ht]
  by_cases e : t = j
  · rw [if_pos e, if_pos (by omega), e]
  · rw [if_neg e]
    by_cases g1 : j + 1 ≤ t
    · rw [if_pos g1, if_pos (by omega)]
    · rw [if_neg g1, if_neg (by omega)]
theorem gTo_0 (g : List F) : gTo g 0 = g := by
  apply ext_at (gTo_len _ _)
  intro j hj
  rw [gTo_len] at hj
  rw [gTo_at _ _ _ hj, if_pos (Nat.zero_le _)]
theorem rt_one (c : F) : rt [c] = [c, 1] := by
  apply ext_at (by rw [rt_len]; rfl)
  intro k _
  refine uniq all_nodup (by rw [all_length, rt_len]; simp) (by rw [all_length]; simp) (fun x _ => ?_) k
  rw [ev_rt_pl, pl_one, ev_lin]
/-- A polynomial that is 0 at all bytes is a multiple. -/
theorem qts_exact (p xs : List F) (hn : xs.Nodup) (h : ∀ x ∈ xs, ev x p = 0) (x : F) : ev x (qts xs p) * ev x (rt xs) = ev x p := by
  obtain ⟨R, hl, he⟩ := qts_ev p xs
  have hz : ∀ k, at_ R k = 0 := zero_of_roots xs hn R hl fun y hy => by
    have := he y
    rw [h y hy, (ev_rt y xs).2 hy, F.mul_zero, F.zero_add] at this
    exact this.symm
  have : ev x R = 0 := by
    rw [ev_sum]
    exact sm_zero fun k _ => by rw [hz k, F.zero_mul]
  rw [he x, this, F.add_zero]
end Go.Proofs.Sh
