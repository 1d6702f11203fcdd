/- A region that draws its order, loads what is known, and ends in two stores. -/
import Derived.Test.YtacbenjfiabegaaFt
namespace Go.Proofs.Ytacbenjfiabegaa
open Go Go.RowKit

section
variable {P : Program} {ops : Array Oper}
/-- What was carried out waited for nothing that was not. -/
def shutA (ops : Array Oper) (l : List Nat) : Prop := ∀ j ∈ l, ∀ o, ops[j]? = some o → ∀ e ∈ o.after, Region.binds .any e = true → e.on ∈ l
/-- All operations, in whatever order; a saying I of what was carried out and of the world. -/
theorem famA_any (h : famOk ops = true) {a0 : Act} {Q : Exit → Act → World → Prop} (I : (Nat → Value) → List Nat → World → Prop)
    (hs : ∀ i o vs l W, ops[i]? = some o → i ∉ l → (∀ e ∈ o.after, Region.binds .any e = true → e.on ∈ l) → shutA ops l → I vs l W → stepAt P ops a0 vs o W (fun v W' => I (fun j => if j = i then v else vs j) (l ++ [i]) W'))
    (hQ : ∀ (vs : Nat → Value) (l : List Nat) (W : World), (∀ j, j < ops.size → j ∈ l) → I vs l W → Q .normal (fillL ops vs a0 (List.range ops.size)) W) :
    ∀ (fuel : Nat) (listed : Array Bool) (vs : Nat → Value) (l : List Nat) (W : World), listed.size = ops.size → l.Nodup → (∀ j, j < ops.size → (listed.getD j true = true ↔ j ∈ l)) → (∀ j ∈ l, j < ops.size) → ops.size ≤ fuel + l.length →
      shutA ops l → I vs l W → wpAny P .any ops Q fuel listed (fillL ops vs a0 l) W := by
  have done : ∀ (vs : Nat → Value) (l : List Nat) (W : World), l.Nodup → (∀ j ∈ l, j < ops.size) → (∀ j, j < ops.size → j ∈ l) → I vs l W → Q .normal (fillL ops vs a0 l) W := fun vs l W hnd hlt hall hI => by
    have hp : l.Perm (List.range ops.size) := (List.perm_ext_iff_of_nodup hnd List.nodup_range).2 fun j => ⟨fun hj => List.mem_range.2 (hlt j hj), fun hj => hall j (List.mem_range.1 hj)⟩
    have e : fillL ops vs a0 l = fillL ops vs a0 (List.range ops.size) := by
      unfold fillL
      refine hp.foldl_eq' (fun x _ y _ z => ?_) a0
      by_cases hxy : x = y
      · rw [hxy]
      · exact Act.put_comm z (vs x) (vs y) fun d hd hd2 => hxy (famOk_inj h hd hd2)
    rw [e]
    exact hQ vs l W hall hI
  intro fuel
  induction fuel with
  | zero =>
    intro listed vs l W hz hnd hli hlt hle hsh hI
    have hall : ∀ j, j < ops.size → j ∈ l := fun j hj => by
      refine Classical.byContradiction fun hn => ?_
      have h1 : (j :: l).Nodup := List.nodup_cons.2 ⟨hn, hnd⟩
      have h2 : (j :: l).length ≤ (List.range ops.size).length := nodup_le _ _ h1 (fun k hk => by
        rcases List.mem_cons.1 hk with rfl | hk
        · exact List.mem_range.2 hj
        · exact List.mem_range.2 (hlt k hk))
      simp at h2
      omega
    refine ⟨?_, done vs l W hnd hlt hall hI⟩
    refine List.eq_nil_iff_forall_not_mem.2 fun j hj => ?_
    obtain ⟨h0, o, ho, _⟩ := mem_ready.1 hj
    have hjs := (Array.getElem?_eq_some_iff.1 ho).1
    rw [(hli j hjs).2 (hall j hjs)] at h0
    cases h0
  | succ fuel ih =>
    intro listed vs l W hz hnd hli hlt hle hsh hI
    refine ⟨fun hr => ?_, fun i hi => ?_⟩
    · refine done vs l W hnd hlt (fun j hj => ?_) hI
      refine Nat.strongRecOn j (motive := fun j => j < ops.size → j ∈ l) (fun j ihj hj => ?_) hj
      refine Classical.byContradiction fun hn => ?_
      have hmem : j ∈ Region.ready .any ops listed := by
        rw [mem_ready]
        refine ⟨?_, ops[j], Array.getElem?_eq_getElem hj, fun e he hb => ?_⟩
        · cases hg : listed.getD j true with
          | false => rfl
          | true => exact absurd ((hli j hj).1 hg) hn
        · have hlt2 := (famOk_at h (Array.getElem?_eq_getElem hj)).1 e he hb
          have := (hli e.on (by omega)).2 (ihj e.on hlt2 (by omega))
          have hsz : e.on < listed.size := by omega
          simpa [hsz] using this
      rw [hr] at hmem
      cases hmem
    · obtain ⟨h0, o, ho, hall⟩ := mem_ready.1 hi
      have his : i < ops.size := (Array.getElem?_eq_some_iff.1 ho).1
      have hil : i ∉ l := fun hm => by
        rw [(hli i his).2 hm] at h0
        cases h0
      have hal : ∀ e ∈ o.after, Region.binds .any e = true → e.on ∈ l := fun e he hb => by
        have h1 := hall e he hb
        have hes : e.on < ops.size := Nat.lt_trans ((famOk_at h ho).1 e he hb) his
        refine (hli e.on hes).1 ?_
        have hsz : e.on < listed.size := by omega
        simpa [hsz] using h1
      have hdl : ∀ j ∈ depsOf ops o, j ∈ l := fun j hj => by
        obtain ⟨e, he, hb, rfl⟩ := (famOk_at h ho).2.1 j hj
        exact hal e he hb
      refine stepAt_run h ho vs l hlt hdl W (hs i o vs l W ho hil hal hsh hI) fun v W' hv => ?_
      have hvs : ∀ j ∈ l, vs j = (fun j => if j = i then v else vs j) j := fun j hj => by
        have : j ≠ i := fun e => hil (e ▸ hj)
        simp [this]
      have e : (fillL ops vs a0 l).put o.dst v = fillL ops (fun j => if j = i then v else vs j) a0 (l ++ [i]) := by
        rw [fill_snoc, ← fill_congr ops vs _ l a0 hvs]
        simp [dstOf, ho]
      rw [e]
      refine ih _ _ _ _ (by rw [Array.size_setIfInBounds]; exact hz) ?_ ?_ ?_ ?_ ?_ hv
      · rw [List.nodup_append]
        exact ⟨hnd, by simp, fun a ha b hb => by simp at hb; exact fun e => hil (by rw [← hb, ← e]; exact ha)⟩
      · intro j hj
        by_cases hji : j = i
        · subst hji
          have hsz : j < listed.size := by omega
          simp [hsz]
        · rw [getD_set_ne true (fun e => hji e.symm), hli j hj]
          simp [hji]
      · intro j hj
        rcases List.mem_append.1 hj with hj | hj
        · exact hlt j hj
        · simp at hj; rw [hj]; exact his
      · rw [List.length_append, List.length_singleton]; omega
      · intro j hj o' ho' e9 he9 hb9
        rcases List.mem_append.1 hj with hj | hj
        · exact List.mem_append_left _ (hsh j hj o' ho' e9 he9 hb9)
        · have hj : j = i := by simpa using hj
          subst hj
          rw [ho] at ho'
          injection ho' with ho'
          subst ho'
          exact List.mem_append_left _ (hal e9 he9 hb9)
/-- Some operations' values, put where they belong. -/
def putC (cs : List Value) : List (Nat × Option Tmp) → Act → Act
  | [], a => a
  | (j, d) :: r, a => putC cs r (a.put d (cs.getD j undef))
theorem fill_putC (ops : Array Oper) (cs : List Value) (vs : Nat → Value) : ∀ (l : List Nat) (a : Act), (∀ j ∈ l, vs j = cs.getD j undef) → fillL ops vs a l = putC cs (l.map fun j => (j, dstOf ops j)) a
  | [], _, _ => rfl
  | j :: l, a, h => by
    rw [fill_cons, h j List.mem_cons_self, fill_putC ops cs vs l _ (fun k hk => h k (List.mem_cons_of_mem _ hk))]
    rfl
/-- Does an operation wait for another one? -/
def waits (ops : Array Oper) (j i : Nat) : Bool := match ops[j]? with | some o => o.after.any fun e => Region.binds .any e && e.on == i | none => false
theorem waits_in {l : List Nat} (hsh : shutA ops l) {i j : Nat} (hj : j ∈ l) (h : waits ops j i = true) : i ∈ l := by
  unfold waits at h
  cases ho : ops[j]? with
  | none => rw [ho] at h; cases h
  | some o =>
    rw [ho] at h
    obtain ⟨e, he, hb⟩ := Array.any_eq_true'.1 h
    simp only [Bool.and_eq_true, beq_iff_eq] at hb
    rw [← hb.2]
    exact hsh j hj o ho e he hb.1
/-- The form of such a region: all but the late ones come ahead of the first store, all ahead of the second one. -/
def seqOk (ops : Array Oper) (n : Nat) (late : List Nat) : Bool :=
  (List.range n).all (fun i => late.contains i || (List.range (n + 1)).any fun j => decide (i < j) && !late.contains j && waits ops j i) &&
  (List.range (n + 2)).all (fun i => (List.range (n + 3)).any fun j => decide (i < j) && waits ops j i) && !late.contains n && waits ops (n + 1) n && waits ops (n + 2) n && late.all (fun i => decide (i < n))
theorem seqOk_up {n : Nat} {late : List Nat} (h : seqOk ops n late = true) {l : List Nat} (hsh : shutA ops l) (hn : n ∈ l) : ∀ i, i ≤ n → late.contains i = false → i ∈ l := by
  unfold seqOk at h
  simp only [Bool.and_eq_true] at h
  have h1 := h.1.1.1.1.1
  have key : ∀ m i, i + m = n → late.contains i = false → i ∈ l := by
    intro m
    induction m using Nat.strongRecOn with
    | ind m ih =>
      intro i e hi
      by_cases h0 : m = 0
      · have : i = n := by omega
        rw [this]; exact hn
      · have h2 := (List.all_eq_true.1 h1) i (List.mem_range.2 (by omega))
        rw [hi, Bool.false_or] at h2
        obtain ⟨j, hj, h3⟩ := List.any_eq_true.1 h2
        have hj := List.mem_range.1 hj
        simp only [Bool.and_eq_true, Bool.not_eq_true'] at h3
        have hij := of_decide_eq_true h3.1.1
        exact waits_in hsh (ih (n - j) (by omega) j (by omega) h3.1.2) h3.2
  exact fun i h2 hi => key (n - i) i (by omega) hi
theorem seqOk_all {n : Nat} {late : List Nat} (h : seqOk ops n late = true) {l : List Nat} (hsh : shutA ops l) (hn : n + 2 ∈ l) : ∀ i, i ≤ n + 2 → i ∈ l := by
  unfold seqOk at h
  simp only [Bool.and_eq_true] at h
  have h1 := h.1.1.1.1.2
  have key : ∀ m i, i + m = n + 2 → i ∈ l := by
    intro m
    induction m using Nat.strongRecOn with
    | ind m ih =>
      intro i e
      by_cases h0 : m = 0
      · have : i = n + 2 := by omega
        rw [this]; exact hn
      · have h2 := (List.all_eq_true.1 h1) i (List.mem_range.2 (by omega))
        obtain ⟨j, hj, h3⟩ := List.any_eq_true.1 h2
        have hj := List.mem_range.1 hj
        simp only [Bool.and_eq_true] at h3
        have hij := of_decide_eq_true h3.1
        exact waits_in hsh (ih (n + 2 - j) (by omega) j (by omega)) h3.2
  exact fun i h2 => key (n + 2 - i) i (by omega)
/-- All operations, one behind the other. -/
def seqAll (P : Program) (a0 : Act) (w0 : World) (cs : List Value) (n : Nat) (late : List Nat) (Mid Post : World → Prop) : Nat → List Oper → Tab → Prop
  | i, o :: r, t :: T =>
    ((i = n ∧ ∀ W, Below w0.heap.size w0 W → runOp P o t.2 W (fun _ W' => Mid W') (putC cs t.1 a0)) ∨ (i = n + 2 ∧ ∀ W, Mid W → runOp P o t.2 W (fun _ W' => Post W') (putC cs t.1 a0)) ∨
      ((i ≠ n ∧ i ≠ n + 2) ∧ (n < i ∨ ∀ W, Below w0.heap.size w0 W → runOp P o t.2 W (fun u W' => u = cs.getD i undef ∧ W' = W) (putC cs t.1 a0)) ∧
        ((late.contains i = false ∧ i < n) ∨ ∀ W, Mid W → runOp P o t.2 W (fun u W' => u = cs.getD i undef ∧ W' = W) (putC cs t.1 a0)))) ∧ seqAll P a0 w0 cs n late Mid Post (i + 1) r T
  | _, [], _ => True
  | _, _, _ => False
theorem seqAll_at {P : Program} {a0 : Act} {w0 : World} {cs : List Value} {n : Nat} {late : List Nat} {Mid Post : World → Prop} : ∀ (l : List Oper) (T : Tab) (k : Nat), seqAll P a0 w0 cs n late Mid Post k l T → ∀ (i : Nat) (o : Oper), l[i]? = some o →
    ∃ t : Tel, T[i]? = some t ∧ ((k + i = n ∧ ∀ W, Below w0.heap.size w0 W → runOp P o t.2 W (fun _ W' => Mid W') (putC cs t.1 a0)) ∨ (k + i = n + 2 ∧ ∀ W, Mid W → runOp P o t.2 W (fun _ W' => Post W') (putC cs t.1 a0)) ∨
      ((k + i ≠ n ∧ k + i ≠ n + 2) ∧ (n < k + i ∨ ∀ W, Below w0.heap.size w0 W → runOp P o t.2 W (fun u W' => u = cs.getD (k + i) undef ∧ W' = W) (putC cs t.1 a0)) ∧
        ((late.contains (k + i) = false ∧ k + i < n) ∨ ∀ W, Mid W → runOp P o t.2 W (fun u W' => u = cs.getD (k + i) undef ∧ W' = W) (putC cs t.1 a0))))
  | x :: r, t :: T, k, h, 0, o, ho => by
    simp at ho
    subst ho
    exact ⟨t, rfl, h.1⟩
  | x :: r, t :: T, k, h, i + 1, o, ho => by
    obtain ⟨t', h2, h3⟩ := seqAll_at r T (k + 1) h.2 i o (by simpa using ho)
    rw [show k + 1 + i = k + (i + 1) by omega] at h3
    exact ⟨t', by simpa using h2, h3⟩
  | [], _, _, _, i, o, ho => by simp at ho
  | x :: r, [], _, h, _, _, _ => by simp [seqAll] at h
/-- **A region that draws its order, loads what is known, and ends in two stores.** -/
theorem wp_region_seq {id : Nat} {a0 : Act} {w0 : World} {Q : Exit → Act → World → Prop} (n : Nat) (late : List Nat) (cs : List Value) (T : Tab) (all : List (Nat × Option Tmp)) (Mid Post : World → Prop)
    (hm : P.follows .mixedOrders = true) (h : famOk ops = true) (h2 : seqOk ops n late = true) (hsz : ops.size = n + 3) (hT : tabOf ops = T) (hall : (List.range ops.size).map (fun j => (j, dstOf ops j)) = all)
    (en : dstOf ops n = none) (en2 : dstOf ops (n + 2) = none) (hs : seqAll P a0 w0 cs n late Mid Post 0 ops.toList T)
    (hQ : ∀ W, Post W → Q .normal (putC cs all a0) W) : (Code.region id ops true).wp P Q a0 w0 := by
  subst hall
  subst hT
  have hw1 : waits ops (n + 1) n = true := by unfold seqOk at h2; simp only [Bool.and_eq_true] at h2; exact h2.1.1.2
  have hw2 : waits ops (n + 2) n = true := by unfold seqOk at h2; simp only [Bool.and_eq_true] at h2; exact h2.1.2
  have hlate : ∀ i, late.contains i = true → i < n := fun i hi => by
    unfold seqOk at h2
    simp only [Bool.and_eq_true] at h2
    exact of_decide_eq_true ((List.all_eq_true.1 h2.2) i (by simpa using hi))
  have hwait : ∀ {l : List Nat} {i : Nat} {o : Oper}, ops[i]? = some o → (∀ e ∈ o.after, Region.binds .any e = true → e.on ∈ l) → waits ops i n = true → n ∈ l := fun {l i o} ho hal hw => by
    unfold waits at hw
    rw [ho] at hw
    obtain ⟨e, he, hb⟩ := Array.any_eq_true'.1 hw
    simp only [Bool.and_eq_true, beq_iff_eq] at hb
    rw [← hb.2]
    exact hal e he hb.1
  refine wp_region_any hm ?_
  refine famA_any h (fun vs l W => (∀ j ∈ l, j ≠ n → j ≠ n + 2 → vs j = cs.getD j undef) ∧ ((n ∉ l ∧ n + 2 ∉ l ∧ Below w0.heap.size w0 W) ∨ (n ∈ l ∧ n + 2 ∉ l ∧ Mid W) ∨ (n + 2 ∈ l ∧ Post W)))
    (fun i o vs l W ho hil hal hsh hI => ?_) (fun vs l W hall hI => ?_) ops.size (Array.replicate ops.size false) (fun _ => undef) [] _ (by simp) List.nodup_nil (fun j hj => by simp [hj]) (fun j hj => by cases hj) (by simp) (fun j hj => by cases hj)
    ⟨fun j hj => (by cases hj), .inl ⟨by simp, by simp, ⟨rfl, rfl, rfl, Nat.le_refl _, fun _ _ => rfl⟩⟩⟩
  · obtain ⟨hv, hI⟩ := hI
    have his : i < n + 3 := by rw [← hsz]; exact (Array.getElem?_eq_some_iff.1 ho).1
    have hdl : ∀ j ∈ depsOf ops o, j ∈ l := fun j hj => by
      obtain ⟨e, he, hb, rfl⟩ := (famOk_at h ho).2.1 j hj
      exact hal e he hb
    have hdn : ∀ j ∈ depsOf ops o, j ≠ n ∧ j ≠ n + 2 := fun j hj => by
      unfold depsOf at hj
      have := (List.mem_filter.1 hj).2
      refine ⟨fun e => ?_, fun e => ?_⟩
      · subst e; rw [en] at this; cases this
      · subst e; rw [en2] at this; cases this
    have hfill : fillL ops vs a0 (depsOf ops o) = putC cs ((depsOf ops o).map fun j => (j, dstOf ops j)) a0 := fill_putC ops cs vs _ a0 (fun j hj => hv j (hdl j hj) (hdn j hj).1 (hdn j hj).2)
    have vals_up : ∀ v, (i = n ∨ i = n + 2 ∨ v = cs.getD i undef) → ∀ j ∈ l ++ [i], j ≠ n → j ≠ n + 2 → (fun j => if j = i then v else vs j) j = cs.getD j undef := fun v hvi j hj h1 h2 => by
      by_cases e : j = i
      · subst e
        show (if j = j then v else vs j) = _
        rw [if_pos rfl]
        rcases hvi with h | h | h
        · exact absurd h h1
        · exact absurd h h2
        · exact h
      · show (if j = i then v else vs j) = _
        rw [if_neg e]
        rcases List.mem_append.1 hj with hj | hj
        · exact hv j hj h1 h2
        · exact absurd (by simpa using hj) e
    obtain ⟨t, h4, h5⟩ := seqAll_at ops.toList (tabOf ops) 0 hs i o (by rw [Array.getElem?_toList]; exact ho)
    rw [Nat.zero_add] at h5
    have ht : t = ((depsOf ops o).map (fun j => (j, dstOf ops j)), gdOf ops o) := by
      unfold tabOf at h4
      rw [List.getElem?_map, Array.getElem?_toList, ho] at h4
      simpa using h4.symm
    subst ht
    simp only [← hfill] at h5
    have not_app : ∀ {k : Nat}, k ∉ l → k ≠ i → k ∉ l ++ [i] := fun h1 h2 hm => by
      rcases List.mem_append.1 hm with hm | hm
      · exact h1 hm
      · exact h2 (by simpa using hm)
    rcases hI with ⟨a1, a2, a3⟩ | ⟨a1, a2, a3⟩ | ⟨a1, a2⟩
    · rcases h5 with ⟨e, h5⟩ | ⟨e, h5⟩ | ⟨⟨e1, e2⟩, h5, _⟩
      · refine (stepAt_of (h5 W a3)).mono fun v W' hM => ⟨vals_up v (.inl e), .inr (.inl ⟨by rw [e]; simp, not_app a2 (by omega), hM⟩)⟩
      · subst e
        exact absurd (hwait ho hal hw2) a1
      · rcases h5 with h5 | h5
        · have : i = n + 1 := by omega
          subst this
          exact absurd (hwait ho hal hw1) a1
        · refine (stepAt_of (h5 W a3)).mono fun v W' hM => ⟨vals_up v (.inr (.inr hM.1)), .inl ⟨not_app a1 (fun h => e1 h.symm), not_app a2 (fun h => e2 h.symm), by rw [hM.2]; exact a3⟩⟩
    · rcases h5 with ⟨e, h5⟩ | ⟨e, h5⟩ | ⟨⟨e1, e2⟩, _, h5⟩
      · subst e
        exact absurd a1 hil
      · refine (stepAt_of (h5 W a3)).mono fun v W' hM => ⟨vals_up v (.inr (.inl e)), .inr (.inr ⟨by rw [e]; simp, hM⟩)⟩
      · rcases h5 with ⟨h5, h6⟩ | h5
        · exact absurd (seqOk_up h2 hsh a1 i (by omega) h5) hil
        · refine (stepAt_of (h5 W a3)).mono fun v W' hM => ⟨vals_up v (.inr (.inr hM.1)), .inr (.inl ⟨List.mem_append_left _ a1, not_app a2 (fun h => e2 h.symm), by rw [hM.2]; exact a3⟩)⟩
    · exact absurd (seqOk_all h2 hsh a1 i (by omega)) hil
  · obtain ⟨hv, hI⟩ := hI
    have hp : Post W := by
      rcases hI with ⟨a1, _, _⟩ | ⟨_, a2, _⟩ | ⟨_, a2⟩
      · exact absurd (hall n (by omega)) a1
      · exact absurd (hall (n + 2) (by omega)) a2
      · exact a2
    have e : fillL ops vs a0 (List.range ops.size) = putC cs ((List.range ops.size).map fun j => (j, dstOf ops j)) a0 := by
      rw [← fill_putC ops cs (fun j => cs.getD j undef) (List.range ops.size) a0 (fun j _ => rfl)]
      have key : ∀ (l : List Nat) (a : Act), (∀ j ∈ l, j < n + 3) → fillL ops vs a l = fillL ops (fun j => cs.getD j undef) a l := by
        intro l
        induction l with
        | nil => exact fun _ _ => rfl
        | cons j l ih =>
          intro a hj
          rw [fill_cons, fill_cons]
          have e2 : a.put (dstOf ops j) (vs j) = a.put (dstOf ops j) (cs.getD j undef) := by
            by_cases h1 : j = n
            · rw [h1, en]; rfl
            · by_cases h2 : j = n + 2
              · rw [h2, en2]; rfl
              · rw [hv j (hall j (by rw [hsz]; exact hj j List.mem_cons_self)) h1 h2]
          rw [e2]
          exact ih _ (fun k hk => hj k (List.mem_cons_of_mem _ hk))
      exact key _ a0 (fun j hj => by rw [← hsz]; exact List.mem_range.1 hj)
    rw [e]
    exact hQ W hp
end
end Go.Proofs.Ytacbenjfiabegaa
