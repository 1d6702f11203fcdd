/- A region that draws its order and ends in 'x[k] = append(x[k], ..)': each operation by what its value is; the append and the store by what the world is behind them. -/
import Derived.Test.YtacbenjfiabegaaK9
namespace Go.Proofs.Ytacbenjfiabegaa
open Go Go.RowKit

section
variable {P : Program} {ops : Array Oper}
/-- What is to be shown of an operation in one world. -/
def stepAt (P : Program) (ops : Array Oper) (a0 : Act) (vs : Nat → Value) (o : Oper) (W : World) (G : Value → World → Prop) : Prop :=
  ∀ K : Act → World → Prop, (∀ v a' W', a'.defers = (fillL ops vs a0 (depsOf ops o)).defers → (∀ d, o.dst = some d → a'.tmps[d]? = if d < a0.tmps.size then some v else none) → G v W' → K a' W') →
    if Region.wanted o (yielded ops (fillL ops vs a0 (depsOf ops o)).tmps) = true then Oper.wp P o (fillL ops vs a0 (depsOf ops o)) W K (fun _ _ _ => False) else K ((fillL ops vs a0 (depsOf ops o)).put o.dst undef) W
theorem stepAt.mono {a0 : Act} {vs : Nat → Value} {o : Oper} {W : World} {G G' : Value → World → Prop} (h : stepAt P ops a0 vs o W G) (hG : ∀ v W', G v W' → G' v W') : stepAt P ops a0 vs o W G' :=
  fun K hK => h K (fun v a' W' h1 h2 h3 => hK v a' W' h1 h2 (hG v W' h3))
def postAt (o : Oper) (a0 ac : Act) (G : Value → World → Prop) (a' : Act) (W' : World) : Prop :=
  ∃ v, a'.defers = ac.defers ∧ (∀ d, o.dst = some d → a'.tmps[d]? = if d < a0.tmps.size then some v else none) ∧ G v W'
theorem postAt_put {o : Oper} {a0 ac : Act} {G : Value → World → Prop} {W' : World} {v : Value} (hsz : ac.tmps.size = a0.tmps.size) (h : postAt o a0 ac G (ac.put o.dst v) W') :
    ∃ u, ac.put o.dst u = ac.put o.dst v ∧ G u W' := by
  obtain ⟨u, _, h1, h2⟩ := h
  refine ⟨u, ?_, h2⟩
  cases hd : o.dst with
  | none => rfl
  | some d =>
    have := h1 d hd
    rw [hd, put_at_eq, hsz] at this
    by_cases hlt : d < a0.tmps.size
    · rw [if_pos hlt, if_pos hlt] at this
      injection this with this
      rw [this]
    · have hle : ac.tmps.size ≤ d := by rw [hsz]; exact Nat.not_lt.1 hlt
      have e : ∀ x, ac.put (some d) x = ac := fun x => by
        show ({ ac with tmps := ac.tmps.setIfInBounds d x } : Act) = ac
        rw [Array.setIfInBounds_eq_of_size_le hle]
      rw [e, e]
theorem stepAt_run (h : famOk ops = true) {a0 : Act} {i : Nat} {o : Oper} (ho : ops[i]? = some o) {Q : Exit → Act → World → Prop} {G : Value → World → Prop}
    (vs : Nat → Value) (l : List Nat) (hlt : ∀ j ∈ l, j < ops.size) (hl : ∀ j ∈ depsOf ops o, j ∈ l) (W : World) (hst : stepAt P ops a0 vs o W G) {K : Act → World → Prop}
    (hK : ∀ v W', G v W' → K ((fillL ops vs a0 l).put o.dst v) W') : wpOp P ops Q i K (fillL ops vs a0 l) W := by
  have hlooks : ∀ t ∈ o.looksAt ops, (fillL ops vs a0 l).tmps[t]? = (fillL ops vs a0 (depsOf ops o)).tmps[t]? := fun t ht => fill_looks h vs a0 l hl t ht hlt
  have hsel : ∀ cs b, o.op ≠ .select cs b := fun cs b => Region.noSelect_spec (Bool.and_eq_true _ _ ▸ h).1 i o cs b ho
  have hs := hst (postAt o a0 (fillL ops vs a0 (depsOf ops o)) G) (fun v a' W' h1 h2 h3 => ⟨v, h1, h2, h3⟩)
  unfold wpOp
  rw [ho]
  simp only
  rw [wanted_looks _ _ hlooks]
  have hz1 := fill_size ops vs (depsOf ops o) a0
  have hz2 := fill_size ops vs l a0
  have hd1 := fill_defs ops vs (depsOf ops o) a0
  generalize hac : fillL ops vs a0 (depsOf ops o) = ac at *
  generalize ha : fillL ops vs a0 l = a at *
  have fin : ∀ v W', postAt o a0 ac G (ac.put o.dst v) W' → K (a.put o.dst v) W' := fun v W' hp => by
    obtain ⟨u, e, h1⟩ := postAt_put hz1 hp
    rw [← put_same e (by omega)]
    exact hK u W' h1
  split
  · rename_i hw
    rw [if_pos hw] at hs
    refine .inl ?_
    unfold Oper.wp at *
    rw [exec_looks hsel a ac hlooks]
    generalize (execOp ac.eval o).run P W = r at *
    cases r with
    | ok n w' =>
      cases n <;> simp only [Oper.upon] at hs ⊢
      case value u => exact fin u w' hs
      case skip => exact fin undef w' hs
      case defer d =>
        obtain ⟨v, e, _⟩ := hs
        rw [put_defs] at e
        have := congrArg List.length e
        simp at this
      case enter f args =>
        refine Calls.mono hs fun e w'' he => ?_
        cases e with
        | returned u => exact fin u w'' he
        | panicked c => exact he.elim
        | outgrown => exact (by obtain ⟨_, _, h9⟩ := (show LetsOut _ from he); exact h9.elim)
      case row row args => exact Rows.mono hs fun u w'' he => fin u w'' he
    | halt x w' =>
      cases x <;> simp only [Oper.upon] at hs ⊢
      all_goals exact hs.elim
  · rename_i hw
    rw [if_neg hw] at hs
    exact fin undef W hs
/-- What was carried out looks at nothing that was not. -/
def shutL (ops : Array Oper) (l : List Nat) : Prop := ∀ j ∈ l, ∀ o, ops[j]? = some o → ∀ k ∈ depsOf ops o, k ∈ l
/-- All operations, in whatever order; a saying I of what was carried out and of the world. -/
theorem famI_any (h : famOk ops = true) {a0 : Act} {Q : Exit → Act → World → Prop} (I : (Nat → Value) → List Nat → World → Prop)
    (hs : ∀ i o vs l W, ops[i]? = some o → i ∉ l → (∀ j ∈ depsOf ops o, j ∈ l) → shutL ops l → I vs l W → stepAt P ops a0 vs o W (fun v W' => I (fun j => if j = i then v else vs j) (l ++ [i]) W'))
    (hQ : ∀ (vs : Nat → Value) (l : List Nat) (W : World), (∀ j, j < ops.size → j ∈ l) → I vs l W → Q .normal (fillL ops vs a0 (List.range ops.size)) W) :
    ∀ (fuel : Nat) (listed : Array Bool) (vs : Nat → Value) (l : List Nat) (W : World), listed.size = ops.size → l.Nodup → (∀ j, j < ops.size → (listed.getD j true = true ↔ j ∈ l)) → (∀ j ∈ l, j < ops.size) → ops.size ≤ fuel + l.length →
      shutL ops l → I vs l W → wpAny P .any ops Q fuel listed (fillL ops vs a0 l) W := by
  have done : ∀ (vs : Nat → Value) (l : List Nat) (W : World), l.Nodup → (∀ j ∈ l, j < ops.size) → (∀ j, j < ops.size → j ∈ l) → I vs l W → Q .normal (fillL ops vs a0 l) W := fun vs l W hnd hlt hall hI => by
    have hp : l.Perm (List.range ops.size) := (List.perm_ext_iff_of_nodup hnd List.nodup_range).2 fun j => ⟨fun hj => List.mem_range.2 (hlt j hj), fun hj => hall j (List.mem_range.1 hj)⟩
    have e : fillL ops vs a0 l = fillL ops vs a0 (List.range ops.size) := by
      unfold fillL
      refine hp.foldl_eq' (fun x _ y _ z => ?_) a0
      by_cases hxy : x = y
      · rw [hxy]
      · exact Act.put_comm z (vs x) (vs y) fun d hd hd2 => hxy (famOk_inj h hd hd2)
    rw [e]
    exact hQ vs l W hall hI
  intro fuel
  induction fuel with
  | zero =>
    intro listed vs l W hz hnd hli hlt hle hsh hI
    have hall : ∀ j, j < ops.size → j ∈ l := fun j hj => by
      refine Classical.byContradiction fun hn => ?_
      have h1 : (j :: l).Nodup := List.nodup_cons.2 ⟨hn, hnd⟩
      have h2 : (j :: l).length ≤ (List.range ops.size).length := nodup_le _ _ h1 (fun k hk => by
        rcases List.mem_cons.1 hk with rfl | hk
        · exact List.mem_range.2 hj
        · exact List.mem_range.2 (hlt k hk))
      simp at h2
      omega
    refine ⟨?_, done vs l W hnd hlt hall hI⟩
    refine List.eq_nil_iff_forall_not_mem.2 fun j hj => ?_
    obtain ⟨h0, o, ho, _⟩ := mem_ready.1 hj
    have hjs := (Array.getElem?_eq_some_iff.1 ho).1
    rw [(hli j hjs).2 (hall j hjs)] at h0
    cases h0
  | succ fuel ih =>
    intro listed vs l W hz hnd hli hlt hle hsh hI
    refine ⟨fun hr => ?_, fun i hi => ?_⟩
    · refine done vs l W hnd hlt (fun j hj => ?_) hI
      refine Nat.strongRecOn j (motive := fun j => j < ops.size → j ∈ l) (fun j ihj hj => ?_) hj
      refine Classical.byContradiction fun hn => ?_
      have hmem : j ∈ Region.ready .any ops listed := by
        rw [mem_ready]
        refine ⟨?_, ops[j], Array.getElem?_eq_getElem hj, fun e he hb => ?_⟩
        · cases hg : listed.getD j true with
          | false => rfl
          | true => exact absurd ((hli j hj).1 hg) hn
        · have hlt2 := (famOk_at h (Array.getElem?_eq_getElem hj)).1 e he hb
          have := (hli e.on (by omega)).2 (ihj e.on hlt2 (by omega))
          have hsz : e.on < listed.size := by omega
          simpa [hsz] using this
      rw [hr] at hmem
      cases hmem
    · obtain ⟨h0, o, ho, hall⟩ := mem_ready.1 hi
      have his : i < ops.size := (Array.getElem?_eq_some_iff.1 ho).1
      have hil : i ∉ l := fun hm => by
        rw [(hli i his).2 hm] at h0
        cases h0
      have hdl : ∀ j ∈ depsOf ops o, j ∈ l := fun j hj => by
        obtain ⟨e, he, hb, rfl⟩ := (famOk_at h ho).2.1 j hj
        have h1 := hall e he hb
        have hes : e.on < ops.size := Nat.lt_trans ((famOk_at h ho).1 e he hb) his
        refine (hli e.on hes).1 ?_
        have hsz : e.on < listed.size := by omega
        simpa [hsz] using h1
      refine stepAt_run h ho vs l hlt hdl W (hs i o vs l W ho hil hdl hsh hI) fun v W' hv => ?_
      have hvs : ∀ j ∈ l, vs j = (fun j => if j = i then v else vs j) j := fun j hj => by
        have : j ≠ i := fun e => hil (e ▸ hj)
        simp [this]
      have e : (fillL ops vs a0 l).put o.dst v = fillL ops (fun j => if j = i then v else vs j) a0 (l ++ [i]) := by
        rw [fill_snoc, ← fill_congr ops vs _ l a0 hvs]
        simp [dstOf, ho]
      rw [e]
      refine ih _ _ _ _ (by rw [Array.size_setIfInBounds]; exact hz) ?_ ?_ ?_ ?_ ?_ hv
      · rw [List.nodup_append]
        exact ⟨hnd, by simp, fun a ha b hb => by simp at hb; exact fun e => hil (by rw [← hb, ← e]; exact ha)⟩
      · intro j hj
        by_cases hji : j = i
        · subst hji
          have hsz : j < listed.size := by omega
          simp [hsz]
        · rw [getD_set_ne true (fun e => hji e.symm), hli j hj]
          simp [hji]
      · intro j hj
        rcases List.mem_append.1 hj with hj | hj
        · exact hlt j hj
        · simp at hj; rw [hj]; exact his
      · rw [List.length_append, List.length_singleton]; omega
      · intro j hj o' ho' k hk
        rcases List.mem_append.1 hj with hj | hj
        · exact List.mem_append_left _ (hsh j hj o' ho' k hk)
        · have hj : j = i := by simpa using hj
          subst hj
          rw [ho] at ho'
          injection ho' with ho'
          subst ho'
          exact List.mem_append_left _ (hdl k hk)
/-- What a saying says of the value alone. -/
def Say.bare : Say → Value → Prop
  | .v c, u => u = c
  | .p _, _ => True
theorem Say.ok_bare {s : Say} {u : Value} {W : World} (h : s.ok u W) : s.bare u := by
  cases s with
  | v c => exact h
  | p f => trivial
/-- The sayings behind the append: of values alone; its own value is v. -/
def bareL (L : List Say) (n : Nat) (v : Value) : List Say := (L.map fun s => match s with | .v c => Say.v c | .p _ => .p fun _ _ => True).set n (.v v)
theorem go_step {a0 : Act} {vs : Nat → Value} {o : Oper} {W : World} {L : List Say} {G : Act → Prop} (hd : ∀ j ∈ depsOf ops o, (sayAt L j).ok (vs j) W) (hg : tellGo L W G ((depsOf ops o).map fun j => (j, dstOf ops j)) a0) : G (fillL ops vs a0 (depsOf ops o)) :=
  famGo_fill ops _ W G vs _ a0 hd (tellGo_fam L W G _ a0 hg)
/-- An operation's run: of its value and of the world behind it. -/
def runOp (P : Program) (o : Oper) (gd : Option (Option Tmp × Bool)) (W : World) (G : Value → World → Prop) (a : Act) : Prop :=
  ∀ K : Act → World → Prop, (∀ v W', G v W' → K (a.put o.dst v) W') → if wantedBy gd a.tmps = true then Oper.wp P o a W K (fun _ _ _ => False) else K (a.put o.dst undef) W
theorem stepAt_of {a0 : Act} {vs : Nat → Value} {o : Oper} {W : World} {G : Value → World → Prop} (h : runOp P o (gdOf ops o) W G (fillL ops vs a0 (depsOf ops o))) : stepAt P ops a0 vs o W G := fun K hK => by
  rw [wanted_by]
  refine h K (fun v W' hG => hK v _ W' (put_defs _ _ _) (fun d hd => ?_) hG)
  rw [hd, put_at_eq, fill_size]
theorem bareL_ok {L : List Say} {n : Nat} (hn : n < L.length) {vs : Nat → Value} {j : Nat} {W : World} (h : (sayAt L j).bare (vs j)) : (sayAt (bareL L n (vs n)) j).ok (vs j) W := by
  unfold sayAt bareL
  by_cases e : j = n
  · subst e
    rw [List.getD_eq_getElem?_getD, List.getElem?_set_self (by rw [List.length_map]; exact hn)]
    rfl
  · rw [List.getD_eq_getElem?_getD, List.getElem?_set_ne (fun h => e h.symm), List.getElem?_map]
    unfold sayAt at h
    rw [List.getD_eq_getElem?_getD] at h
    cases hL : L[j]? with
    | none => trivial
    | some s =>
      rw [hL] at h
      cases s with
      | v c => exact h
      | p f => trivial
/-- The form of such a region: all but the first two, and the last three, are wanted by another one up to the append; the store wants the append and its address, that the first two. -/
def twoOk (ops : Array Oper) (n : Nat) : Bool :=
  (List.range n).all (fun i => decide (i < 2) || (List.range (n + 1)).any fun j => decide (i < j) && (match ops[j]? with | some o => (depsOf ops o).contains i | none => false)) &&
  (match ops[n + 1]?, ops[n + 2]? with | some o, some o' => (depsOf ops o).contains 0 && (depsOf ops o).contains 1 && (depsOf ops o').contains n && (depsOf ops o').contains (n + 1) | _, _ => false)
theorem twoOk_up {n : Nat} (h : twoOk ops n = true) {l : List Nat} (hsh : shutL ops l) (hn : n ∈ l) : ∀ i, 2 ≤ i → i ≤ n → i ∈ l := by
  have h1 := (Bool.and_eq_true _ _ ▸ h).1
  have key : ∀ m i, i + m = n → 2 ≤ i → i ∈ l := by
    intro m
    induction m using Nat.strongRecOn with
    | ind m ih =>
      intro i e hi
      by_cases h0 : m = 0
      · have : i = n := by omega
        rw [this]; exact hn
      · have h2 := (List.all_eq_true.1 h1) i (List.mem_range.2 (by omega))
        have hd : decide (i < 2) = false := decide_eq_false (by omega)
        rw [hd, Bool.false_or] at h2
        obtain ⟨j, hj, h3⟩ := List.any_eq_true.1 h2
        have hj := List.mem_range.1 hj
        rw [Bool.and_eq_true] at h3
        have hij := of_decide_eq_true h3.1
        have h4 := h3.2
        cases ho : ops[j]? with
        | none => rw [ho] at h4; cases h4
        | some o =>
          rw [ho] at h4
          exact hsh j (ih (n - j) (by omega) j (by omega) (by omega)) o ho i (by simpa using h4)
  exact fun i h2 hi => key (n - i) i (by omega) h2
theorem twoOk_st {n : Nat} (h : twoOk ops n = true) : ∃ o o', ops[n + 1]? = some o ∧ ops[n + 2]? = some o' ∧ 0 ∈ depsOf ops o ∧ 1 ∈ depsOf ops o ∧ n ∈ depsOf ops o' ∧ n + 1 ∈ depsOf ops o' := by
  have h1 := (Bool.and_eq_true _ _ ▸ h).2
  cases ho : ops[n + 1]? with
  | none => rw [ho] at h1; cases h1
  | some o =>
    cases ho' : ops[n + 2]? with
    | none => rw [ho, ho'] at h1; cases h1
    | some o' =>
      rw [ho, ho'] at h1
      simp only [Bool.and_eq_true, List.contains_iff_mem] at h1
      exact ⟨o, o', rfl, rfl, h1.1.1.1, h1.1.1.2, h1.1.2, h1.2⟩
/-- All operations, one behind the other: the n-th is the append, the one behind the next the store; three may come up between them. -/
def tellTwo (P : Program) (a0 : Act) (w0 : World) (L : List Say) (n : Nat) (Mid : Value → World → Prop) (Post : World → Prop) : Nat → List Say → List Oper → Tab → Prop
  | i, s :: S, o :: r, t :: T =>
    (((i ≠ n ∧ i ≠ n + 2) ∧ ∀ W, Below w0.heap.size w0 W → tellGo L W (tellOp P s o t.2 W) t.1 a0) ∨ (i = n ∧ ∀ W, Below w0.heap.size w0 W → tellGo L W (runOp P o t.2 W Mid) t.1 a0) ∨
      (i = n + 2 ∧ ∀ v W, Mid v W → tellGo (bareL L n v) W (runOp P o t.2 W fun _ W' => Post W') t.1 a0)) ∧
    ((i ≠ 0 ∧ i ≠ 1 ∧ i ≠ n + 1) ∨ ∃ c, sayAt L i = .v c ∧ ∀ v W, Mid v W → tellGo (bareL L n v) W (runOp P o t.2 W fun u W' => u = c ∧ W' = W) t.1 a0) ∧ tellTwo P a0 w0 L n Mid Post (i + 1) S r T
  | _, _, [], _ => True
  | _, _, _, _ => False
theorem tellTwo_at {P : Program} {a0 : Act} {w0 : World} {L : List Say} {n : Nat} {Mid : Value → World → Prop} {Post : World → Prop} : ∀ (S : List Say) (l : List Oper) (T : Tab) (k : Nat), tellTwo P a0 w0 L n Mid Post k S l T → ∀ (i : Nat) (o : Oper), l[i]? = some o →
    ∃ (s : Say) (t : Tel), S[i]? = some s ∧ T[i]? = some t ∧
      (((k + i ≠ n ∧ k + i ≠ n + 2) ∧ ∀ W, Below w0.heap.size w0 W → tellGo L W (tellOp P s o t.2 W) t.1 a0) ∨ (k + i = n ∧ ∀ W, Below w0.heap.size w0 W → tellGo L W (runOp P o t.2 W Mid) t.1 a0) ∨
        (k + i = n + 2 ∧ ∀ v W, Mid v W → tellGo (bareL L n v) W (runOp P o t.2 W fun _ W' => Post W') t.1 a0)) ∧
      ((k + i ≠ 0 ∧ k + i ≠ 1 ∧ k + i ≠ n + 1) ∨ ∃ c, sayAt L (k + i) = .v c ∧ ∀ v W, Mid v W → tellGo (bareL L n v) W (runOp P o t.2 W fun u W' => u = c ∧ W' = W) t.1 a0)
  | s :: S, x :: r, t :: T, k, h, 0, o, ho => by
    simp at ho
    subst ho
    exact ⟨s, t, rfl, rfl, h.1, h.2.1⟩
  | s :: S, x :: r, t :: T, k, h, i + 1, o, ho => by
    obtain ⟨s', t', h1, h2, h3⟩ := tellTwo_at S r T (k + 1) h.2.2 i o (by simpa using ho)
    rw [show k + 1 + i = k + (i + 1) by omega] at h3
    exact ⟨s', t', by simpa using h1, by simpa using h2, h3⟩
  | _, [], _, _, _, i, o, ho => by simp at ho
  | [], x :: r, _, _, h, _, _, _ => by simp [tellTwo] at h
  | s :: S, x :: r, [], _, h, _, _, _ => by simp [tellTwo] at h
/-- **A region that draws its order and ends in an append and a store.** -/
theorem wp_region_two {id : Nat} {a0 : Act} {w0 : World} {Q : Exit → Act → World → Prop} (n : Nat) (L : List Say) (T : Tab) (all : List (Nat × Option Tmp)) (f : Value → World → Prop) (Mid : Value → World → Prop) (Post : World → Prop)
    (hm : P.follows .mixedOrders = true) (h : famOk ops = true) (h2 : twoOk ops n = true) (hsz : ops.size = n + 3) (hT : tabOf ops = T) (hall : (List.range ops.size).map (fun j => (j, dstOf ops j)) = all) (hst : sayLast L) (hLl : n < L.length)
    (en : sayAt L n = .p f) (en2 : sayAt L (n + 2) = .p fun _ _ => True) (hs : tellTwo P a0 w0 L n Mid Post 0 L ops.toList T)
    (hQ : ∀ v W, Post W → tellGo (bareL L n v) W (fun a => Q .normal a W) all a0) : (Code.region id ops true).wp P Q a0 w0 := by
  subst hall
  subst hT
  obtain ⟨oa, ob, hoa, hob, d0, d1, dn, dn1⟩ := twoOk_st h2
  refine wp_region_any hm ?_
  refine famI_any h (fun vs l W => (∀ j ∈ l, (sayAt L j).bare (vs j)) ∧ ((n ∉ l ∧ n + 2 ∉ l ∧ Below w0.heap.size w0 W ∧ ∀ j ∈ l, (sayAt L j).ok (vs j) W) ∨ (n ∈ l ∧ n + 2 ∉ l ∧ Mid (vs n) W) ∨ (n + 2 ∈ l ∧ Post W)))
    (fun i o vs l W ho hil hdl hsh hI => ?_) (fun vs l W hall hI => ?_) ops.size (Array.replicate ops.size false) (fun _ => undef) [] _ (by simp) List.nodup_nil (fun j hj => by simp [hj]) (fun j hj => by cases hj) (by simp) (fun j hj => by cases hj)
    ⟨fun j hj => (by cases hj), .inl ⟨by simp, by simp, ⟨rfl, rfl, rfl, Nat.le_refl _, fun _ _ => rfl⟩, fun j hj => (by cases hj)⟩⟩
  · obtain ⟨hb, hI⟩ := hI
    have his : i < n + 3 := by rw [← hsz]; exact (Array.getElem?_eq_some_iff.1 ho).1
    have bare_up : ∀ v, (sayAt L i).bare v → ∀ j ∈ l ++ [i], (sayAt L j).bare ((fun j => if j = i then v else vs j) j) := fun v hv j hj => by
      by_cases e : j = i
      · subst e; simpa using hv
      · rcases List.mem_append.1 hj with hj | hj
        · simpa [e] using hb j hj
        · exact absurd (by simpa using hj) e
    obtain ⟨s, t, h3, h4, h5, h6⟩ := tellTwo_at L ops.toList (tabOf ops) 0 hs i o (by rw [Array.getElem?_toList]; exact ho)
    rw [Nat.zero_add] at h5 h6
    have ht : t = ((depsOf ops o).map (fun j => (j, dstOf ops j)), gdOf ops o) := by
      unfold tabOf at h4
      rw [List.getElem?_map, Array.getElem?_toList, ho] at h4
      simpa using h4.symm
    subst ht
    have hsy : sayAt L i = s := by unfold sayAt; rw [List.getD_eq_getElem?_getD, h3]; rfl
    rcases hI with ⟨a1, a2, a3, a4⟩ | ⟨a1, a2, a3⟩ | ⟨a1, a2⟩
    · rcases h5 with ⟨⟨e9, e8⟩, h5⟩ | ⟨e9, h5⟩ | ⟨e8, h5⟩
      · have hgo := go_step (vs := vs) (fun j hj => a4 j (hdl j hj)) (h5 W a3)
        have hrun : runOp P o (gdOf ops o) W (fun v W' => s.ok v W' ∧ Below W.heap.size W W') (fillL ops vs a0 (depsOf ops o)) := fun K hK => hgo K (by
          cases s with
          | v c => exact fun W' hB' => hK c W' ⟨rfl, hB'⟩
          | p f' => exact fun u W' hu hB' => hK u W' ⟨hu, hB'⟩)
        refine (stepAt_of hrun).mono fun v W' hG => ⟨bare_up v (by rw [hsy]; exact Say.ok_bare hG.1), .inl ⟨fun hm => ?_, fun hm => ?_, a3.trans (hG.2.mono a3.size), fun j hj => ?_⟩⟩
        · rcases List.mem_append.1 hm with hm | hm
          · exact a1 hm
          · exact e9 (by simpa using hm : n = i).symm
        · rcases List.mem_append.1 hm with hm | hm
          · exact a2 hm
          · exact e8 (by simpa using hm : n + 2 = i).symm
        · by_cases e : j = i
          · subst e
            rw [hsy]
            simpa using hG.1
          · rcases List.mem_append.1 hj with hj | hj
            · have := sayAt_last L hst j _ _ _ (a4 j hj) hG.2
              simpa [e] using this
            · exact absurd (by simpa using hj) e
      · subst e9
        refine (stepAt_of (go_step (fun j hj => a4 j (hdl j hj)) (h5 W a3))).mono fun v W' hM => ⟨bare_up v (by rw [en]; trivial), .inr (.inl ⟨by simp, fun hm => ?_, by simpa using hM⟩)⟩
        rcases List.mem_append.1 hm with hm | hm
        · exact a2 hm
        · simp at hm
      · subst e8
        rw [hob] at ho
        injection ho with ho
        subst ho
        exact absurd (hdl n dn) a1
    · by_cases i3 : i = n + 2
      · rcases h5 with ⟨⟨e9, e8⟩, h5⟩ | ⟨e9, h5⟩ | ⟨e8, h5⟩
        · exact absurd i3 e8
        · omega
        · subst e8
          refine (stepAt_of (go_step (fun j hj => bareL_ok hLl (hb j (hdl j hj))) (h5 (vs n) W a3))).mono fun v W' hG => ⟨bare_up v (by rw [en2]; trivial), .inr (.inr ⟨by simp, hG⟩)⟩
      · by_cases i4 : i = 0 ∨ i = 1 ∨ i = n + 1
        · rcases h6 with h6 | ⟨c, hc, h6⟩
          · omega
          · refine (stepAt_of (go_step (fun j hj => bareL_ok hLl (hb j (hdl j hj))) (h6 (vs n) W a3))).mono fun v W' hG => ⟨bare_up v (by rw [hc]; exact hG.1), .inr (.inl ⟨List.mem_append_left _ a1, fun hm => ?_, ?_⟩)⟩
            · rcases List.mem_append.1 hm with hm | hm
              · exact a2 hm
              · exact i3 (by simpa using hm : n + 2 = i).symm
            · have hni : n ≠ i := fun e => hil (e ▸ a1)
              rw [hG.2]
              simpa [hni] using a3
        · exact absurd (twoOk_up h2 hsh a1 i (by omega) (by omega)) hil
    · refine absurd ?_ hil
      have hn : n ∈ l := hsh _ a1 ob hob n dn
      have hn1 : n + 1 ∈ l := hsh _ a1 ob hob (n + 1) dn1
      by_cases i0 : i = 0
      · subst i0; exact hsh _ hn1 oa hoa 0 d0
      · by_cases i1 : i = 1
        · subst i1; exact hsh _ hn1 oa hoa 1 d1
        · by_cases i2 : i = n + 1
          · subst i2; exact hn1
          · by_cases i3 : i = n + 2
            · subst i3; exact a1
            · exact twoOk_up h2 hsh hn i (by omega) (by omega)
  · obtain ⟨hb, hI⟩ := hI
    have hp : Post W := by
      rcases hI with ⟨a1, _, _, _⟩ | ⟨_, a2, _⟩ | ⟨_, a2⟩
      · exact absurd (hall n (by omega)) a1
      · exact absurd (hall (n + 2) (by omega)) a2
      · exact a2
    exact famGo_fill ops (fun i => (sayAt (bareL L n (vs n)) i).ok) W _ vs _ a0 (fun j hj => bareL_ok hLl (hb j (hall j (List.mem_range.1 hj)))) (tellGo_fam _ W _ _ a0 (hQ (vs n) W hp))
end
end Go.Proofs.Ytacbenjfiabegaa
