/- As Ft's wp_region_two, where the store's address looks at the first operation alone: '*p = append(*p, x)'. -/
import Derived.Test.YtacbenjfiabegaaFt
namespace Go.Proofs.Ytacbenjfiabegaa
open Go Go.RowKit

section
variable {P : Program} {ops : Array Oper}
/-- The form of such a region: all but the first two, and the last three, are wanted by another one up to the append; the store wants the append and its address, that the first two. -/
def oneOk (ops : Array Oper) (n : Nat) : Bool :=
  (List.range n).all (fun i => decide (i < 2) || (List.range (n + 1)).any fun j => decide (i < j) && (match ops[j]? with | some o => (depsOf ops o).contains i | none => false)) &&
  (match ops[n + 1]?, ops[n + 2]? with | some o, some o' => (depsOf ops o).contains 0 && (decide (2 ≤ n) && (match ops[2]? with | some o2 => (depsOf ops o2).contains 1 | none => false)) && (depsOf ops o').contains n && (depsOf ops o').contains (n + 1) | _, _ => false)
theorem oneOk_up {n : Nat} (h : oneOk ops n = true) {l : List Nat} (hsh : shutL ops l) (hn : n ∈ l) : ∀ i, 2 ≤ i → i ≤ n → i ∈ l := by
  have h1 := (Bool.and_eq_true _ _ ▸ h).1
  have key : ∀ m i, i + m = n → 2 ≤ i → i ∈ l := by
    intro m
    induction m using Nat.strongRecOn with
    | ind m ih =>
      intro i e hi
      by_cases h0 : m = 0
      · have : i = n := by omega
        rw [this]; exact hn
      · have h2 := (List.all_eq_true.1 h1) i (List.mem_range.2 (by omega))
        have hd : decide (i < 2) = false := decide_eq_false (by omega)
        rw [hd, Bool.false_or] at h2
        obtain ⟨j, hj, h3⟩ := List.any_eq_true.1 h2
        have hj := List.mem_range.1 hj
        rw [Bool.and_eq_true] at h3
        have hij := of_decide_eq_true h3.1
        have h4 := h3.2
        cases ho : ops[j]? with
        | none => rw [ho] at h4; cases h4
        | some o =>
          rw [ho] at h4
          exact hsh j (ih (n - j) (by omega) j (by omega) (by omega)) o ho i (by simpa using h4)
  exact fun i h2 hi => key (n - i) i (by omega) h2
theorem oneOk_st {n : Nat} (h : oneOk ops n = true) : ∃ o o', ops[n + 1]? = some o ∧ ops[n + 2]? = some o' ∧ 0 ∈ depsOf ops o ∧ (2 ≤ n ∧ ∃ o2, ops[2]? = some o2 ∧ 1 ∈ depsOf ops o2) ∧ n ∈ depsOf ops o' ∧ n + 1 ∈ depsOf ops o' := by
  have h1 := (Bool.and_eq_true _ _ ▸ h).2
  cases ho : ops[n + 1]? with
  | none => rw [ho] at h1; cases h1
  | some o =>
    cases ho' : ops[n + 2]? with
    | none => rw [ho, ho'] at h1; cases h1
    | some o' =>
      rw [ho, ho'] at h1
      simp only [Bool.and_eq_true, List.contains_iff_mem, decide_eq_true_eq] at h1
      refine ⟨o, o', rfl, rfl, h1.1.1.1, ⟨h1.1.1.2.1, ?_⟩, h1.1.2, h1.2⟩
      have h2 := h1.1.1.2.2
      cases ho2 : ops[2]? with
      | none => rw [ho2] at h2; cases h2
      | some o2 =>
        rw [ho2] at h2
        exact ⟨o2, rfl, by simpa using h2⟩
/-- **A region that draws its order and ends in an append and a store.** -/
theorem wp_region_one {id : Nat} {a0 : Act} {w0 : World} {Q : Exit → Act → World → Prop} (n : Nat) (L : List Say) (T : Tab) (all : List (Nat × Option Tmp)) (f : Value → World → Prop) (Mid : Value → World → Prop) (Post : World → Prop)
    (hm : P.follows .mixedOrders = true) (h : famOk ops = true) (h2 : oneOk ops n = true) (hsz : ops.size = n + 3) (hT : tabOf ops = T) (hall : (List.range ops.size).map (fun j => (j, dstOf ops j)) = all) (hst : sayLast L) (hLl : n < L.length)
    (en : sayAt L n = .p f) (en2 : sayAt L (n + 2) = .p fun _ _ => True) (hs : tellTwo P a0 w0 L n Mid Post 0 L ops.toList T)
    (hQ : ∀ v W, Post W → tellGo (bareL L n v) W (fun a => Q .normal a W) all a0) : (Code.region id ops true).wp P Q a0 w0 := by
  subst hall
  subst hT
  obtain ⟨oa, ob, hoa, hob, d0, d1, dn, dn1⟩ := oneOk_st h2
  refine wp_region_any hm ?_
  refine famI_any h (fun vs l W => (∀ j ∈ l, (sayAt L j).bare (vs j)) ∧ ((n ∉ l ∧ n + 2 ∉ l ∧ Below w0.heap.size w0 W ∧ ∀ j ∈ l, (sayAt L j).ok (vs j) W) ∨ (n ∈ l ∧ n + 2 ∉ l ∧ Mid (vs n) W) ∨ (n + 2 ∈ l ∧ Post W)))
    (fun i o vs l W ho hil hdl hsh hI => ?_) (fun vs l W hall hI => ?_) ops.size (Array.replicate ops.size false) (fun _ => undef) [] _ (by simp) List.nodup_nil (fun j hj => by simp [hj]) (fun j hj => by cases hj) (by simp) (fun j hj => by cases hj)
    ⟨fun j hj => (by cases hj), .inl ⟨by simp, by simp, ⟨rfl, rfl, rfl, Nat.le_refl _, fun _ _ => rfl⟩, fun j hj => (by cases hj)⟩⟩
  · obtain ⟨hb, hI⟩ := hI
    have his : i < n + 3 := by rw [← hsz]; exact (Array.getElem?_eq_some_iff.1 ho).1
    have bare_up : ∀ v, (sayAt L i).bare v → ∀ j ∈ l ++ [i], (sayAt L j).bare ((fun j => if j = i then v else vs j) j) := fun v hv j hj => by
      by_cases e : j = i
      · subst e; simpa using hv
      · rcases List.mem_append.1 hj with hj | hj
        · simpa [e] using hb j hj
        · exact absurd (by simpa using hj) e
    obtain ⟨s, t, h3, h4, h5, h6⟩ := tellTwo_at L ops.toList (tabOf ops) 0 hs i o (by rw [Array.getElem?_toList]; exact ho)
    rw [Nat.zero_add] at h5 h6
    have ht : t = ((depsOf ops o).map (fun j => (j, dstOf ops j)), gdOf ops o) := by
      unfold tabOf at h4
      rw [List.getElem?_map, Array.getElem?_toList, ho] at h4
      simpa using h4.symm
    subst ht
    have hsy : sayAt L i = s := by unfold sayAt; rw [List.getD_eq_getElem?_getD, h3]; rfl
    rcases hI with ⟨a1, a2, a3, a4⟩ | ⟨a1, a2, a3⟩ | ⟨a1, a2⟩
    · rcases h5 with ⟨⟨e9, e8⟩, h5⟩ | ⟨e9, h5⟩ | ⟨e8, h5⟩
      · have hgo := go_step (vs := vs) (fun j hj => a4 j (hdl j hj)) (h5 W a3)
        have hrun : runOp P o (gdOf ops o) W (fun v W' => s.ok v W' ∧ Below W.heap.size W W') (fillL ops vs a0 (depsOf ops o)) := fun K hK => hgo K (by
          cases s with
          | v c => exact fun W' hB' => hK c W' ⟨rfl, hB'⟩
          | p f' => exact fun u W' hu hB' => hK u W' ⟨hu, hB'⟩)
        refine (stepAt_of hrun).mono fun v W' hG => ⟨bare_up v (by rw [hsy]; exact Say.ok_bare hG.1), .inl ⟨fun hm => ?_, fun hm => ?_, a3.trans (hG.2.mono a3.size), fun j hj => ?_⟩⟩
        · rcases List.mem_append.1 hm with hm | hm
          · exact a1 hm
          · exact e9 (by simpa using hm : n = i).symm
        · rcases List.mem_append.1 hm with hm | hm
          · exact a2 hm
          · exact e8 (by simpa using hm : n + 2 = i).symm
        · by_cases e : j = i
          · subst e
            rw [hsy]
            simpa using hG.1
          · rcases List.mem_append.1 hj with hj | hj
            · have := sayAt_last L hst j _ _ _ (a4 j hj) hG.2
              simpa [e] using this
            · exact absurd (by simpa using hj) e
      · subst e9
        refine (stepAt_of (go_step (fun j hj => a4 j (hdl j hj)) (h5 W a3))).mono fun v W' hM => ⟨bare_up v (by rw [en]; trivial), .inr (.inl ⟨by simp, fun hm => ?_, by simpa using hM⟩)⟩
        rcases List.mem_append.1 hm with hm | hm
        · exact a2 hm
        · simp at hm
      · subst e8
        rw [hob] at ho
        injection ho with ho
        subst ho
        exact absurd (hdl n dn) a1
    · by_cases i3 : i = n + 2
      · rcases h5 with ⟨⟨e9, e8⟩, h5⟩ | ⟨e9, h5⟩ | ⟨e8, h5⟩
        · exact absurd i3 e8
        · omega
        · subst e8
          refine (stepAt_of (go_step (fun j hj => bareL_ok hLl (hb j (hdl j hj))) (h5 (vs n) W a3))).mono fun v W' hG => ⟨bare_up v (by rw [en2]; trivial), .inr (.inr ⟨by simp, hG⟩)⟩
      · by_cases i4 : i = 0 ∨ i = 1 ∨ i = n + 1
        · rcases h6 with h6 | ⟨c, hc, h6⟩
          · omega
          · refine (stepAt_of (go_step (fun j hj => bareL_ok hLl (hb j (hdl j hj))) (h6 (vs n) W a3))).mono fun v W' hG => ⟨bare_up v (by rw [hc]; exact hG.1), .inr (.inl ⟨List.mem_append_left _ a1, fun hm => ?_, ?_⟩)⟩
            · rcases List.mem_append.1 hm with hm | hm
              · exact a2 hm
              · exact i3 (by simpa using hm : n + 2 = i).symm
            · have hni : n ≠ i := fun e => hil (e ▸ a1)
              rw [hG.2]
              simpa [hni] using a3
        · exact absurd (oneOk_up h2 hsh a1 i (by omega) (by omega)) hil
    · refine absurd ?_ hil
      have hn : n ∈ l := hsh _ a1 ob hob n dn
      have hn1 : n + 1 ∈ l := hsh _ a1 ob hob (n + 1) dn1
      by_cases i0 : i = 0
      · subst i0; exact hsh _ hn1 oa hoa 0 d0
      · by_cases i1 : i = 1
        · subst i1
          obtain ⟨hn2, o2, ho2, d2⟩ := d1
          exact hsh 2 (oneOk_up h2 hsh hn 2 (Nat.le_refl _) hn2) o2 ho2 1 d2
        · by_cases i2 : i = n + 1
          · subst i2; exact hn1
          · by_cases i3 : i = n + 2
            · subst i3; exact a1
            · exact oneOk_up h2 hsh hn i (by omega) (by omega)
  · obtain ⟨hb, hI⟩ := hI
    have hp : Post W := by
      rcases hI with ⟨a1, _, _, _⟩ | ⟨_, a2, _⟩ | ⟨_, a2⟩
      · exact absurd (hall n (by omega)) a1
      · exact absurd (hall (n + 2) (by omega)) a2
      · exact a2
    exact famGo_fill ops (fun i => (sayAt (bareL L n (vs n)) i).ok) W _ vs _ a0 (fun j hj => bareL_ok hLl (hb j (hall j (List.mem_range.1 hj)))) (tellGo_fam _ W _ _ a0 (hQ (vs n) W hp))
end
end Go.Proofs.Ytacbenjfiabegaa
