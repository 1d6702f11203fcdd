/- Plain: the free runs of slots. -/
import Derived.Test.YtacbenjfiabegaaSe
namespace Go.Proofs.Ytacbenjfiabegaa
set_option linter.unusedVariables false
set_option linter.unusedSimpArgs false
open Go.RowKit Go.Proofs.YtacbenjfiabegaaW.PrintWords Go.Proofs.Sh

def runSt (l : List Bool) : Nat → Nat × List (Int × Int)
  | 0 => (0, [])
  | k + 1 => if k < l.length ∧ l.getD k false = true then runSt l k else (k + 1, if (runSt l k).1 < k then (runSt l k).2 ++ [(((runSt l k).1 : Int), ((k - (runSt l k).1 : Nat) : Int))] else (runSt l k).2)
def runsL (l : List Bool) : List (Int × Int) := (runSt l (l.length + 1)).2
def sumR : List (Int × Int) → Int
  | [] => 0
  | r :: R => r.2 + sumR R
theorem sumR_app : ∀ a b, sumR (a ++ b) = sumR a + sumR b
  | [], b => by simp [sumR]
  | r :: a, b => by simp only [List.cons_append, sumR, sumR_app a b]; omega
theorem sumR_perm {a b : List (Int × Int)} (h : a.Perm b) : sumR a = sumR b := by
  induction h with
  | nil => rfl
  | cons x _ ih => simp only [sumR, ih]
  | swap x y l => simp only [sumR]; omega
  | trans _ _ h1 h2 => rw [h1, h2]
/-- How many are free. -/
def cntT : List Bool → Int
  | [] => 0
  | b :: l => (if b then 1 else 0) + cntT l
theorem cntT_app : ∀ a b, cntT (a ++ b) = cntT a + cntT b
  | [], b => by simp [cntT]
  | r :: a, b => by simp only [List.cons_append, cntT, cntT_app a b]; omega
theorem cntT_snoc (l : List Bool) (k : Nat) (h : k < l.length) : cntT (l.take (k + 1)) = cntT (l.take k) + if l.getD k false then 1 else 0 := by
  rw [take_snoc' l k false h, cntT_app]
  simp [cntT]
structure RunInv (l : List Bool) (k a : Nat) (R : List (Int × Int)) : Prop where
  le : a ≤ k
  cur : ∀ j, a ≤ j → j < k → j < l.length ∧ l.getD j false = true
  run : ∀ r ∈ R, 1 ≤ r.2 ∧ 0 ≤ r.1 ∧ r.1 + r.2 < a ∧ r.1 + r.2 ≤ l.length ∧ ∀ j : Nat, r.1 ≤ j → j < r.1 + r.2 → l.getD j false = true
  rise : R.Pairwise (fun r s => r.1 + r.2 < s.1)
  all : ∀ j, j < a → j < l.length → l.getD j false = true → ∃ r ∈ R, r.1 ≤ (j : Int) ∧ (j : Int) < r.1 + r.2
  cnt : sumR R + ((k - a : Nat) : Int) = cntT (l.take k)
theorem run_inv (l : List Bool) : ∀ k, k ≤ l.length + 1 → RunInv l k (runSt l k).1 (runSt l k).2
  | 0, _ => ⟨Nat.le_refl _, fun j h1 h2 => (by omega), fun r hr => (by cases hr), List.Pairwise.nil, fun j h1 => absurd h1 (Nat.not_lt_zero _), by simp [runSt, sumR, cntT]⟩
  | k + 1, hk => by
    have ih := run_inv l k (by omega)
    by_cases h : k < l.length ∧ l.getD k false = true
    · have e : runSt l (k + 1) = runSt l k := if_pos h
      rw [e]
      have hle := ih.le
      refine ⟨by omega, fun j h1 h2 => ?_, ih.run, ih.rise, ih.all, ?_⟩
      · by_cases ej : j = k
        · subst ej; exact h
        · exact ih.cur j h1 (by omega)
      · rw [cntT_snoc l k h.1, h.2, ← ih.cnt]
        simp only [if_true]
        omega
    · have hf : l.getD k false = false := by
        by_cases hlt : k < l.length
        · cases hg : l.getD k false with
          | false => rfl
          | true => exact absurd ⟨hlt, hg⟩ h
        · rw [List.getD_eq_getElem?_getD, List.getElem?_eq_none (by omega)]
          rfl
      have hc : cntT (l.take (k + 1)) = cntT (l.take k) := by
        by_cases hlt : k < l.length
        · rw [cntT_snoc l k hlt, hf]; simp
        · rw [List.take_of_length_le (by omega), List.take_of_length_le (by omega)]
      have hle := ih.le
      by_cases h2 : (runSt l k).1 < k
      · have e : runSt l (k + 1) = (k + 1, (runSt l k).2 ++ [(((runSt l k).1 : Int), ((k - (runSt l k).1 : Nat) : Int))]) := by
          rw [runSt, if_neg h, if_pos h2]
        rw [e]
        generalize (runSt l k).1 = a at *
        generalize (runSt l k).2 = R at *
        have hkl : k ≤ l.length := by omega
        refine ⟨Nat.le_refl _, fun j h1 h3 => by omega, fun r hr => ?_, ?_, fun j h1 h3 h4 => ?_, ?_⟩
        · rcases List.mem_append.1 hr with hr | hr
          · obtain ⟨q1, q2, q3, q4, q5⟩ := ih.run r hr
            exact ⟨q1, q2, by omega, q4, q5⟩
          · obtain rfl : r = ((a : Int), ((k - a : Nat) : Int)) := by simpa using hr
            refine ⟨by simp only; omega, by simp only; omega, by simp only; omega, by simp only; omega, fun j j1 j2 => ?_⟩
            simp only at j1 j2
            exact (ih.cur j (by omega) (by omega)).2
        · rw [List.pairwise_append]
          refine ⟨ih.rise, by simp, fun r hr s hs => ?_⟩
          obtain rfl : s = ((a : Int), ((k - a : Nat) : Int)) := by simpa using hs
          exact (ih.run r hr).2.2.1
        · by_cases hja : j < a
          · obtain ⟨r, hr, q⟩ := ih.all j hja h3 h4
            exact ⟨r, List.mem_append_left _ hr, q⟩
          · have hjk : j ≠ k := fun e => by subst e; rw [hf] at h4; cases h4
            exact ⟨((a : Int), ((k - a : Nat) : Int)), by simp, by simp only; omega, by simp only; omega⟩
        · rw [hc, ← ih.cnt, sumR_app]
          simp only [sumR]
          omega
      · have e : runSt l (k + 1) = (k + 1, (runSt l k).2) := by
          rw [runSt, if_neg h, if_neg h2]
        rw [e]
        generalize (runSt l k).1 = a at *
        generalize (runSt l k).2 = R at *
        refine ⟨Nat.le_refl _, fun j h1 h3 => by omega, fun r hr => ?_, ih.rise, fun j h1 h3 h4 => ?_, ?_⟩
        · obtain ⟨q1, q2, q3, q4, q5⟩ := ih.run r hr
          exact ⟨q1, q2, by omega, q4, q5⟩
        · have hjk : j ≠ k := fun e => by subst e; rw [hf] at h4; cases h4
          exact ih.all j (by omega) h3 h4
        · rw [hc, ← ih.cnt]
          omega
theorem run_end (l : List Bool) : (runSt l (l.length + 1)).1 = l.length + 1 := by
  rw [runSt, if_neg (by omega)]
theorem run_len (l : List Bool) : ∀ k, (runSt l k).2.length ≤ k
  | 0 => Nat.le_refl _
  | k + 1 => by
    have ih := run_len l k
    rw [runSt]
    split
    · omega
    · split
      · simp; omega
      · simp only; omega
theorem runs_mem {l : List Bool} {r : Int × Int} (h : r ∈ runsL l) : 1 ≤ r.2 ∧ 0 ≤ r.1 ∧ r.1 + r.2 ≤ l.length ∧ ∀ j : Nat, r.1 ≤ j → j < r.1 + r.2 → l.getD j false = true := by
  obtain ⟨q1, q2, _, q4, q5⟩ := (run_inv l _ (Nat.le_refl _)).run r h
  exact ⟨q1, q2, q4, q5⟩
theorem runs_rise (l : List Bool) : (runsL l).Pairwise (fun r s => r.1 + r.2 < s.1) := (run_inv l _ (Nat.le_refl _)).rise
theorem runs_all {l : List Bool} {j : Nat} (h : j < l.length) (h2 : l.getD j false = true) : ∃ r ∈ runsL l, r.1 ≤ (j : Int) ∧ (j : Int) < r.1 + r.2 := by
  have := run_inv l _ (Nat.le_refl _)
  exact this.all j (by rw [run_end]; omega) h h2
theorem runs_sum (l : List Bool) : sumR (runsL l) = cntT l := by
  have := (run_inv l _ (Nat.le_refl _)).cnt
  rw [run_end, Nat.sub_self, List.take_of_length_le (by omega)] at this
  unfold runsL
  simpa using this
theorem runs_len (l : List Bool) : (runsL l).length ≤ l.length + 1 := run_len l _
/-- A part of a run is free. -/
theorem run_free {l : List Bool} {r : Int × Int} (h : r ∈ runsL l) {n : Int} (h1 : 1 ≤ n) (h2 : n ≤ r.2) : allB l r.1 n true = true := by
  obtain ⟨q1, q2, q3, q4⟩ := runs_mem h
  unfold allB
  rw [Bool.and_eq_true]
  refine ⟨decide_eq_true ⟨h1, q2, by omega, by omega⟩, ?_⟩
  rw [Bool.not_eq_true', decide_eq_false_iff_not]
  intro hm
  rw [List.mem_take_iff_getElem] at hm
  obtain ⟨i, hi, he⟩ := hm
  rw [List.length_drop] at hi
  rw [List.getElem_drop] at he
  have := q4 (r.1.toNat + i) (by omega) (by omega)
  rw [List.getD_eq_getElem?_getD, List.getElem?_eq_getElem (by omega)] at this
  simp only [Option.getD_some] at this
  rw [this] at he
  cases he
def maxR : List (Int × Int) → Int
  | [] => 0
  | r :: R => max r.2 (maxR R)
theorem maxR_perm {a b : List (Int × Int)} (h : a.Perm b) : maxR a = maxR b := by
  induction h with
  | nil => rfl
  | cons x _ ih => simp only [maxR, ih]
  | swap x y l => simp only [maxR]; omega
  | trans _ _ h1 h2 => rw [h1, h2]
theorem maxR_app : ∀ a b, (∀ r ∈ b, 0 ≤ r.2) → maxR (a ++ b) = max (maxR a) (maxR b)
  | [], b, h => by
    have : 0 ≤ maxR b := by
      clear h
      induction b with
      | nil => exact Int.le_refl _
      | cons r b ih => simp only [maxR]; omega
    simp only [List.nil_append, maxR]
    omega
  | r :: a, b, h => by
    simp only [List.cons_append, maxR, maxR_app a b h]
    omega
end Go.Proofs.Ytacbenjfiabegaa
