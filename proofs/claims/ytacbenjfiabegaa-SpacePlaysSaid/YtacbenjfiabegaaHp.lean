/- Plain: heaps (as container/heap keeps them). -/
import Derived.Test.YtacbenjfiabegaaM5
namespace Go.Proofs.Sh
set_option linter.unusedVariables false
namespace Hp
section
variable {α : Type} (d : α) (key : α → Int)
/-- Two change places. -/
def sw (l : List α) (i j : Nat) : List α := (l.set i (l.getD j d)).set j (l.getD i d)
theorem sw_len (l : List α) (i j : Nat) : (sw d l i j).length = l.length := by simp [sw]
theorem sw_at (l : List α) (i j k : Nat) (hi : i < l.length) (hj : j < l.length) : (sw d l i j).getD k d = if k = j then l.getD i d else if k = i then l.getD j d else l.getD k d := by
  unfold sw
  simp only [List.getD_eq_getElem?_getD, List.getElem?_set, List.length_set]
  by_cases e : j = k
  · subst e
    simp [hj]
  · rw [if_neg e, if_neg (show ¬ k = j from fun h => e h.symm)]
    by_cases e2 : i = k
    · subst e2
      rw [if_pos rfl, if_pos rfl, if_pos hi]
      rfl
    · rw [if_neg e2, if_neg (show ¬ k = i from fun h => e2 h.symm)]
theorem sw_perm (l : List α) (i j : Nat) (hi : i < l.length) (hj : j < l.length) : (sw d l i j).Perm l := by
  unfold sw
  rw [List.getD_eq_getElem?_getD, List.getD_eq_getElem?_getD, List.getElem?_eq_getElem hi, List.getElem?_eq_getElem hj]
  exact List.set_set_perm hi hj
/-- What container/heap.up does. -/
def upL : Nat → List α → Nat → List α
  | 0, l, _ => l
  | f + 1, l, j => if (j - 1) / 2 = j ∨ ¬ key (l.getD j d) < key (l.getD ((j - 1) / 2) d) then l else upL f (sw d l ((j - 1) / 2) j) ((j - 1) / 2)
/-- What container/heap.down does. -/
def downL : Nat → List α → Nat → Nat → List α
  | 0, l, _, _ => l
  | f + 1, l, i, n =>
    if n ≤ 2 * i + 1 then l
    else
      let j := if 2 * i + 2 < n ∧ key (l.getD (2 * i + 2) d) < key (l.getD (2 * i + 1) d) then 2 * i + 2 else 2 * i + 1
      if ¬ key (l.getD j d) < key (l.getD i d) then l else downL f (sw d l i j) j n
/-- The first n are a heap. -/
def IsHeap (l : List α) (n : Nat) : Prop := ∀ k, 0 < k → k < n → key (l.getD ((k - 1) / 2) d) ≤ key (l.getD k d)
def UpInv (l : List α) (j : Nat) : Prop :=
  (∀ k, 0 < k → k < l.length → k ≠ j → key (l.getD ((k - 1) / 2) d) ≤ key (l.getD k d)) ∧ ∀ k, 0 < k → k < l.length → (k - 1) / 2 = j → 0 < j → key (l.getD ((j - 1) / 2) d) ≤ key (l.getD k d)
theorem up_ok : ∀ (f : Nat) (l : List α) (j : Nat), j < l.length → j ≤ f → UpInv d key l j → (upL d key f l j).Perm l ∧ IsHeap d key (upL d key f l j) l.length
  | 0, l, j, hj, hf, h => by
    obtain rfl : j = 0 := by omega
    exact ⟨List.Perm.refl _, fun k h0 h1 => h.1 k h0 h1 (by omega)⟩
  | f + 1, l, j, hj, hf, h => by
    unfold upL
    by_cases e : (j - 1) / 2 = j ∨ ¬ key (l.getD j d) < key (l.getD ((j - 1) / 2) d)
    · rw [if_pos e]
      refine ⟨List.Perm.refl _, fun k h0 h1 => ?_⟩
      by_cases ek : k = j
      · subst ek
        rcases e with e | e
        · omega
        · omega
      · exact h.1 k h0 h1 ek
    · rw [if_neg e]
      have e1 : (j - 1) / 2 ≠ j := fun h => e (.inl h)
      have e2 : key (l.getD j d) < key (l.getD ((j - 1) / 2) d) := Classical.byContradiction fun h => e (.inr h)
      have hp : (j - 1) / 2 < j := by omega
      have hpl : (j - 1) / 2 < l.length := by omega
      have ih := up_ok f (sw d l ((j - 1) / 2) j) ((j - 1) / 2) (by rw [sw_len]; exact hpl) (by omega) ⟨fun k h0 h1 hne => ?_, fun k h0 h1 hk h2 => ?_⟩
      · rw [sw_len] at ih
        exact ⟨ih.1.trans (sw_perm d l _ _ hpl hj), ih.2⟩
      · rw [sw_len] at h1
        rw [sw_at d l _ _ _ hpl hj, sw_at d l _ _ _ hpl hj]
        by_cases k1 : k = j
        · subst k1
          rw [if_pos rfl, if_neg (by omega), if_pos rfl]
          omega
        · rw [if_neg k1, if_neg hne]
          by_cases k2 : (k - 1) / 2 = j
          · rw [if_pos k2]
            exact h.2 k h0 h1 k2 (by omega)
          · rw [if_neg k2]
            by_cases k3 : (k - 1) / 2 = (j - 1) / 2
            · rw [if_pos k3]
              have := h.1 k h0 h1 k1
              rw [k3] at this
              omega
            · rw [if_neg k3]
              exact h.1 k h0 h1 k1
      · rw [sw_len] at h1
        have hq : ((j - 1) / 2 - 1) / 2 < (j - 1) / 2 := by omega
        rw [sw_at d l _ _ _ hpl hj, sw_at d l _ _ _ hpl hj, if_neg (by omega), if_neg (by omega)]
        have hpp := h.1 ((j - 1) / 2) h2 hpl (by omega)
        by_cases k1 : k = j
        · subst k1
          rw [if_pos rfl]
          exact hpp
        · rw [if_neg k1, if_neg (by omega)]
          have := h.1 k h0 h1 k1
          rw [hk] at this
          omega
def DownInv (l : List α) (i n : Nat) : Prop :=
  (∀ k, 0 < k → k < n → (k - 1) / 2 ≠ i → key (l.getD ((k - 1) / 2) d) ≤ key (l.getD k d)) ∧ ∀ k, 0 < k → k < n → (k - 1) / 2 = i → 0 < i → key (l.getD ((i - 1) / 2) d) ≤ key (l.getD k d)
theorem down_ok : ∀ (f : Nat) (l : List α) (i n : Nat), n ≤ l.length → n ≤ i + f → i < n ∨ n = 0 → DownInv d key l i n → (downL d key f l i n).Perm l ∧ IsHeap d key (downL d key f l i n) n ∧ ∀ k, n ≤ k → (downL d key f l i n).getD k d = l.getD k d
  | 0, l, i, n, hn, hf, hi, h => by
    obtain rfl : n = 0 := by omega
    exact ⟨List.Perm.refl _, fun k h0 h1 => by omega, fun _ _ => rfl⟩
  | f + 1, l, i, n, hn, hf, hi, h => by
    unfold downL
    by_cases e0 : n ≤ 2 * i + 1
    · rw [if_pos e0]
      exact ⟨List.Perm.refl _, fun k h0 h1 => h.1 k h0 h1 (by omega), fun _ _ => rfl⟩
    · rw [if_neg e0]
      obtain ⟨j, hj⟩ : ∃ j, j = if 2 * i + 2 < n ∧ key (l.getD (2 * i + 2) d) < key (l.getD (2 * i + 1) d) then 2 * i + 2 else 2 * i + 1 := ⟨_, rfl⟩
      rw [← hj]
      have hjn : j < n ∧ (j - 1) / 2 = i ∧ i < j := by
        rw [hj]
        split
        · omega
        · omega
      have hmin : ∀ k, 0 < k → k < n → (k - 1) / 2 = i → key (l.getD j d) ≤ key (l.getD k d) := fun k h0 h1 hk => by
        have hk2 : k = 2 * i + 1 ∨ k = 2 * i + 2 := by omega
        rw [hj]
        split
        · rename_i hc
          rcases hk2 with rfl | rfl
          · omega
          · omega
        · rename_i hc
          rcases hk2 with rfl | rfl
          · omega
          · have : ¬ key (l.getD (2 * i + 2) d) < key (l.getD (2 * i + 1) d) := fun h => hc ⟨h1, h⟩
            omega
      show (if ¬ key (l.getD j d) < key (l.getD i d) then l else downL d key f (sw d l i j) j n).Perm l ∧ IsHeap d key (if ¬ key (l.getD j d) < key (l.getD i d) then l else downL d key f (sw d l i j) j n) n ∧ ∀ k, n ≤ k → (if ¬ key (l.getD j d) < key (l.getD i d) then l else downL d key f (sw d l i j) j n).getD k d = l.getD k d
      by_cases e1 : ¬ key (l.getD j d) < key (l.getD i d)
      · rw [if_pos e1]
        refine ⟨List.Perm.refl _, fun k h0 h1 => ?_, fun _ _ => rfl⟩
        by_cases k1 : (k - 1) / 2 = i
        · have := hmin k h0 h1 k1
          rw [k1]
          omega
        · exact h.1 k h0 h1 k1
      · rw [if_neg e1]
        have e2 : key (l.getD j d) < key (l.getD i d) := Classical.byContradiction e1
        have hil : i < l.length := by omega
        have hjl : j < l.length := by omega
        have ih := down_ok f (sw d l i j) j n (by rw [sw_len]; exact hn) (by omega) (.inl hjn.1) ⟨fun k h0 h1 hne => ?_, fun k h0 h1 hk h2 => ?_⟩
        · refine ⟨ih.1.trans (sw_perm d l _ _ hil hjl), ih.2.1, fun k hk => ?_⟩
          rw [ih.2.2 k hk, sw_at d l _ _ _ hil hjl, if_neg (by omega), if_neg (by omega)]
        · rw [sw_at d l _ _ _ hil hjl, sw_at d l _ _ _ hil hjl, if_neg hne]
          by_cases k1 : k = j
          · subst k1
            rw [if_pos rfl, if_pos hjn.2.1]
            omega
          · rw [if_neg k1]
            by_cases k2 : k = i
            · subst k2
              rw [if_neg (by omega), if_pos rfl]
              have := h.2 j (by omega) hjn.1 hjn.2.1 h0
              exact this
            · rw [if_neg k2]
              by_cases k3 : (k - 1) / 2 = i
              · rw [if_pos k3]
                exact hmin k h0 h1 k3
              · rw [if_neg k3]
                exact h.1 k h0 h1 k3
        · rw [sw_at d l _ _ _ hil hjl, sw_at d l _ _ _ hil hjl, if_neg (by omega), if_pos hjn.2.1, if_neg (by omega), if_neg (by omega)]
          have := h.1 k h0 h1 (by omega)
          rw [hk] at this
          exact this
theorem heap_min (l : List α) (n : Nat) (h : IsHeap d key l n) : ∀ (f k : Nat), k ≤ f → k < n → key (l.getD 0 d) ≤ key (l.getD k d)
  | 0, k, hf, hk => by
    obtain rfl : k = 0 := by omega
    exact Int.le_refl _
  | f + 1, k, hf, hk => by
    by_cases e : k = 0
    · subst e
      exact Int.le_refl _
    · exact Int.le_trans (heap_min l n h f ((k - 1) / 2) (by omega) (by omega)) (h k (by omega) hk)
/-- What heap.Push leaves. -/
def pushL (l : List α) (x : α) : List α := upL d key l.length (l ++ [x]) l.length
theorem push_ok (l : List α) (x : α) (h : IsHeap d key l l.length) : (pushL d key l x).Perm (l ++ [x]) ∧ IsHeap d key (pushL d key l x) (l.length + 1) := by
  have := up_ok d key l.length (l ++ [x]) l.length (by simp) (Nat.le_refl _) ⟨fun k h0 h1 hne => ?_, fun k h0 h1 hk h2 => ?_⟩
  · rw [List.length_append] at this
    exact this
  · rw [List.length_append, List.length_singleton] at h1
    have e : ∀ q, q < l.length → (l ++ [x]).getD q d = l.getD q d := fun q hq => by simp [List.getD_eq_getElem?_getD, List.getElem?_append_left hq]
    rw [e _ (by omega), e _ (by omega)]
    exact h k h0 (by omega)
  · rw [List.length_append, List.length_singleton] at h1
    omega
/-- What heap.Pop leaves, behind the swap and the way down: the one that is taken comes last. -/
def popL (l : List α) : List α := downL d key l.length (sw d l 0 (l.length - 1)) 0 (l.length - 1)
theorem pop_ok (l : List α) (h0 : 0 < l.length) (h : IsHeap d key l l.length) : (popL d key l).length = l.length ∧ (popL d key l).getD (l.length - 1) d = l.getD 0 d ∧ IsHeap d key ((popL d key l).take (l.length - 1)) (l.length - 1) ∧ ((popL d key l).take (l.length - 1) ++ [l.getD 0 d]).Perm l ∧ ∀ y ∈ l, key (l.getD 0 d) ≤ key y := by
  have hs : ∀ k, (sw d l 0 (l.length - 1)).getD k d = if k = l.length - 1 then l.getD 0 d else if k = 0 then l.getD (l.length - 1) d else l.getD k d := fun k => sw_at d l 0 (l.length - 1) k h0 (by omega)
  have hd := down_ok d key l.length (sw d l 0 (l.length - 1)) 0 (l.length - 1) (by rw [sw_len]; omega) (by omega) (by omega) ⟨fun k h1 h2 hne => ?_, fun k h1 h2 hk h3 => by omega⟩
  · have hlen : (popL d key l).length = l.length := by
      have := hd.1.length_eq
      rw [sw_len] at this
      exact this
    have hlast : (popL d key l).getD (l.length - 1) d = l.getD 0 d := by
      have := hd.2.2 (l.length - 1) (Nat.le_refl _)
      rw [hs, if_pos rfl] at this
      exact this
    have htk : ∀ k, k < l.length - 1 → ((popL d key l).take (l.length - 1)).getD k d = (popL d key l).getD k d := fun k hk => by
      rw [List.getD_eq_getElem?_getD, List.getD_eq_getElem?_getD, List.getElem?_take_of_lt hk]
    refine ⟨hlen, hlast, fun k h1 h2 => ?_, ?_, fun y hy => ?_⟩
    · rw [htk _ (by omega), htk _ h2]
      exact hd.2.1 k h1 h2
    · have e : (popL d key l).take (l.length - 1) ++ [l.getD 0 d] = popL d key l := by
        apply List.ext_getElem (by simp; omega)
        intro k a1 a2
        by_cases hk : k < l.length - 1
        · rw [List.getElem_append_left (by simp; omega), List.getElem_take]
        · obtain rfl : k = l.length - 1 := by omega
          rw [List.getElem_append_right (by simp; omega)]
          simp only [List.getElem_singleton]
          rw [← hlast, List.getD_eq_getElem?_getD, List.getElem?_eq_getElem a2]
          rfl
      rw [e]
      exact hd.1.trans (sw_perm d l _ _ h0 (by omega))
    · obtain ⟨k, hk, rfl⟩ := List.getElem_of_mem hy
      have := heap_min d key l l.length h k k (Nat.le_refl _) hk
      rw [show l.getD k d = l[k] by rw [List.getD_eq_getElem?_getD, List.getElem?_eq_getElem hk]; rfl] at this
      exact this
  · rw [hs, hs, if_neg (show ¬ (k - 1) / 2 = l.length - 1 by omega), if_neg hne, if_neg (show ¬ k = l.length - 1 by omega), if_neg (show ¬ k = 0 by omega)]
    exact h k h1 (by omega)
end
end Hp
end Go.Proofs.Sh
