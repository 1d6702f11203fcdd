/- Plain: the reference's Long, Take, Longest of slots are those of the runs. -/
import Derived.Test.YtacbenjfiabegaaTb
namespace Go.Proofs.Ytacbenjfiabegaa
set_option linter.unusedVariables false
set_option linter.unusedSimpArgs false
open Go.RowKit Go.Proofs.YtacbenjfiabegaaW.PrintWords Go.Proofs.Sh

def longW (m : List Bool) : Nat := (m.takeWhile id).length
theorem longW_stop : ∀ (n : Nat) (m : List Bool), (∀ j, j < n → m.getD j false = true) → n ≤ m.length → (n = m.length ∨ m.getD n false = false) → longW m = n
  | 0, [], _, _, _ => rfl
  | 0, b :: m, _, _, h => by
    have : b = false := by rcases h with h | h; · simp at h
                           · simpa using h
    subst this
    rfl
  | n + 1, [], _, h, _ => by simp at h
  | n + 1, b :: m, h1, h2, h3 => by
    have hb : b = true := by simpa using h1 0 (by omega)
    subst hb
    have ih := longW_stop n m (fun j hj => by simpa using h1 (j + 1) (by omega)) (by simpa using h2) (by simpa using h3)
    unfold longW at ih ⊢
    rw [List.takeWhile_cons_of_pos rfl, List.length_cons, ih]
theorem longW_spec : ∀ (m : List Bool), (∀ j, j < longW m → m.getD j false = true) ∧ longW m ≤ m.length ∧ (longW m = m.length ∨ m.getD (longW m) false = false)
  | [] => ⟨fun j hj => by simp [longW] at hj, by simp [longW], .inl rfl⟩
  | false :: m => ⟨fun j hj => by simp [longW] at hj, by simp [longW], .inr (by simp [longW])⟩
  | true :: m => by
    obtain ⟨h1, h2, h3⟩ := longW_spec m
    have e : longW (true :: m) = longW m + 1 := by unfold longW; rw [List.takeWhile_cons_of_pos rfl]; rfl
    rw [e]
    refine ⟨fun j hj => ?_, by simpa using h2, by simpa using h3⟩
    cases j with
    | zero => rfl
    | succ j => simpa using h1 j (by omega)
def longN (l : List Bool) (a : Nat) : Nat := longW (l.drop a)
theorem getD_drop (l : List Bool) (a j : Nat) : (l.drop a).getD j false = l.getD (a + j) false := by
  rw [List.getD_eq_getElem?_getD, List.getD_eq_getElem?_getD, List.getElem?_drop]
theorem longN_stop {l : List Bool} {a n : Nat} (h1 : ∀ j, j < n → l.getD (a + j) false = true) (h2 : a + n ≤ l.length) (h3 : a + n = l.length ∨ l.getD (a + n) false = false) : longN l a = n := by
  refine longW_stop n _ (fun j hj => by rw [getD_drop]; exact h1 j hj) (by rw [List.length_drop]; omega) ?_
  rw [getD_drop, List.length_drop]
  rcases h3 with h3 | h3
  · exact .inl (by omega)
  · exact .inr h3
theorem longN_spec (l : List Bool) (a : Nat) : (∀ j, a ≤ j → j < a + longN l a → l.getD j false = true) ∧ longN l a ≤ l.length - a := by
  obtain ⟨h1, h2, _⟩ := longW_spec (l.drop a)
  refine ⟨fun j j1 j2 => ?_, by rw [List.length_drop] at h2; exact h2⟩
  have := h1 (j - a) (by unfold longN at j2; omega)
  rw [getD_drop] at this
  rwa [show a + (j - a) = j by omega] at this
/-- So many slots from one on that are free: there is that much. -/
theorem longN_ge {l : List Bool} {a n : Nat} (h : ∀ j, a ≤ j → j < a + n → l.getD j false = true) (hl : a + n ≤ l.length) : n ≤ longN l a := by
  obtain ⟨h1, h2, h3⟩ := longW_spec (l.drop a)
  refine Classical.byContradiction fun hlt => ?_
  have hlt : longN l a < n := by omega
  unfold longN at hlt
  rcases h3 with h3 | h3
  · rw [List.length_drop] at h3
    omega
  · rw [getD_drop] at h3
    rw [h _ (by omega) (by omega)] at h3
    cases h3
theorem pair_lt {R : List (Int × Int)} (h : R.Pairwise (fun r s => r.1 + r.2 < s.1)) {r s : Int × Int} (hr : r ∈ R) (hs : s ∈ R) : r = s ∨ r.1 + r.2 < s.1 ∨ s.1 + s.2 < r.1 := by
  induction R with
  | nil => cases hr
  | cons x R ih =>
    rw [List.pairwise_cons] at h
    rcases List.mem_cons.1 hr with e | hr
    · rcases List.mem_cons.1 hs with e2 | hs
      · exact .inl (e.trans e2.symm)
      · rw [e]
        exact .inr (.inl (h.1 s hs))
    · rcases List.mem_cons.1 hs with e2 | hs
      · rw [e2]
        exact .inr (.inr (h.1 r hr))
      · exact ih h.2 hr hs
/-- What is free lies in one run. -/
theorem in_run {l : List Bool} {a n : Nat} (hn : 1 ≤ n) (h : ∀ j, a ≤ j → j < a + n → l.getD j false = true) (hl : a + n ≤ l.length) : ∃ r ∈ runsL l, r.1 ≤ (a : Int) ∧ ((a + n : Nat) : Int) ≤ r.1 + r.2 := by
  obtain ⟨r, hr, h1, h2⟩ := runs_all (show a < l.length by omega) (h a (Nat.le_refl _) (by omega))
  refine ⟨r, hr, h1, Classical.byContradiction fun hc => ?_⟩
  obtain ⟨q1, q2, q3, _⟩ := runs_mem hr
  have hf := h (r.1 + r.2).toNat (by omega) (by omega)
  obtain ⟨s, hs, s1, s2⟩ := runs_all (show (r.1 + r.2).toNat < l.length by omega) hf
  obtain ⟨p1, p2, p3, _⟩ := runs_mem hs
  rcases pair_lt (runs_rise l) hr hs with e | e | e
  · subst e; omega
  · omega
  · omega
theorem takeL_first {l : List Bool} {k n : Nat} (hn : 1 ≤ n) (hk : k < l.length) (h1 : n ≤ longN l k) (h2 : ∀ a, a < k → longN l a < n) : takeL l (n : Int) = ((k : Int), true, fillS l k false n) := by
  obtain ⟨f1, f2⟩ := longN_spec l k
  obtain ⟨r, hr, r1, r2⟩ := in_run hn (fun j j1 j2 => f1 j j1 (by omega)) (by omega)
  obtain ⟨q1, q2, q3, q4⟩ := runs_mem hr
  have hrk : r.1 = (k : Int) := by
    refine Classical.byContradiction fun hne => ?_
    have := h2 r.1.toNat (by omega)
    have := longN_ge (l := l) (a := r.1.toNat) (n := n) (fun j j1 j2 => q4 j (by omega) (by omega)) (by omega)
    omega
  have hfit : fitR (runsL l) (n : Int) = some r := by
    cases hf : fitR (runsL l) (n : Int) with
    | none =>
      have := List.find?_eq_none.1 hf r hr
      simp at this
      omega
    | some s =>
      have hf2 : (runsL l).find? (fun r => decide ((n : Int) ≤ r.2)) = some s := hf
      obtain ⟨hps, as1, bs, hs, hno⟩ := List.find?_eq_some_iff_append.1 hf2
      have hpw := runs_rise l
      rw [hs] at hr hpw
      have hsm : s ∈ runsL l := by rw [hs]; simp
      have hsn : (n : Int) ≤ s.2 := by simpa using hps
      rcases List.mem_append.1 hr with h9 | h9
      · have := hno r h9
        simp at this
        omega
      · rcases List.mem_cons.1 h9 with h9 | h9
        · rw [h9]
        · exfalso
          rw [List.pairwise_append, List.pairwise_cons] at hpw
          have h8 := hpw.2.1.1 r h9
          obtain ⟨p1, p2, p3, p4⟩ := runs_mem hsm
          have := h2 s.1.toNat (by omega)
          have := longN_ge (l := l) (a := s.1.toNat) (n := n) (fun j j1 j2 => p4 j (by omega) (by omega)) (by omega)
          omega
  rw [takeL_yes (by omega) hfit, hrk]
  simp
theorem takeL_none {l : List Bool} {n : Nat} (hn : 1 ≤ n) (h : ∀ a, a < l.length → longN l a < n) : takeL l (n : Int) = (0, false, l) := by
  refine takeL_no (.inr (List.find?_eq_none.2 fun r hr => ?_))
  obtain ⟨q1, q2, q3, q4⟩ := runs_mem hr
  simp only [decide_eq_true_eq]
  intro hle
  have := h r.1.toNat (by omega)
  have := longN_ge (l := l) (a := r.1.toNat) (n := n) (fun j j1 j2 => q4 j (by omega) (by omega)) (by omega)
  omega
def mlong (l : List Bool) : Nat → Int
  | 0 => 0
  | k + 1 => if mlong l k < longN l k then longN l k else mlong l k
theorem mlong_ge (l : List Bool) : ∀ k, 0 ≤ mlong l k ∧ ∀ a, a < k → (longN l a : Int) ≤ mlong l k
  | 0 => ⟨Int.le_refl _, fun a h => absurd h (Nat.not_lt_zero _)⟩
  | k + 1 => by
    obtain ⟨h1, h2⟩ := mlong_ge l k
    rw [mlong]
    split
    · refine ⟨by omega, fun a ha => ?_⟩
      by_cases e : a = k
      · subst e; exact Int.le_refl _
      · have := h2 a (by omega); omega
    · refine ⟨h1, fun a ha => ?_⟩
      by_cases e : a = k
      · subst e; omega
      · exact h2 a (by omega)
theorem maxR_ge {R : List (Int × Int)} {r : Int × Int} (h : r ∈ R) : r.2 ≤ maxR R := by
  induction R with
  | nil => cases h
  | cons x R ih =>
    simp only [maxR]
    rcases List.mem_cons.1 h with rfl | h
    · omega
    · have := ih h; omega
theorem maxR_nn : ∀ R : List (Int × Int), 0 ≤ maxR R
  | [] => Int.le_refl _
  | r :: R => by have := maxR_nn R; simp only [maxR]; omega
theorem longN_max (l : List Bool) (a : Nat) (h : a < l.length) : (longN l a : Int) ≤ maxR (runsL l) := by
  rcases Nat.eq_zero_or_pos (longN l a) with h0 | h0
  · rw [h0]; exact maxR_nn _
  · obtain ⟨f1, f2⟩ := longN_spec l a
    obtain ⟨r, hr, r1, r2⟩ := in_run h0 f1 (by omega)
    have := maxR_ge hr
    omega
theorem mlong_le (l : List Bool) : ∀ k, k ≤ l.length → mlong l k ≤ maxR (runsL l)
  | 0, _ => maxR_nn _
  | k + 1, hk => by
    have ih := mlong_le l k (by omega)
    have := longN_max l k (by omega)
    rw [mlong]
    split <;> omega
theorem maxR_le {R : List (Int × Int)} {m : Int} (h0 : 0 ≤ m) (h : ∀ r ∈ R, r.2 ≤ m) : maxR R ≤ m := by
  induction R with
  | nil => exact h0
  | cons x R ih =>
    have h1 := h x (by simp)
    have h2 := ih (fun r hr => h r (List.mem_cons_of_mem _ hr))
    simp only [maxR]
    omega
theorem mlong_eq (l : List Bool) : mlong l l.length = maxR (runsL l) := by
  refine Int.le_antisymm (mlong_le l _ (Nat.le_refl _)) (maxR_le (mlong_ge l _).1 fun r hr => ?_)
  obtain ⟨q1, q2, q3, q4⟩ := runs_mem hr
  have h1 := (mlong_ge l l.length).2 r.1.toNat (by omega)
  have h2 := longN_ge (l := l) (a := r.1.toNat) (n := r.2.toNat) (fun j j1 j2 => q4 j (by omega) (by omega)) (by omega)
  omega
end Go.Proofs.Ytacbenjfiabegaa
