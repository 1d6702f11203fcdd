/- Several texts of this seat, one behind the other. -/
import Derived.Orders
import Derived.RegionTactic
import Derived.Below
import Derived.Test.YtacbenjfiabegaaK7
/- A region that draws its order, walked once: each operation by what its value is, in whatever world. -/
namespace Go.Proofs.Ytacbenjfiabegaa
open Go Go.RowKit

/-- What a region's operation writes to. -/
def dstOf (ops : Array Oper) (j : Nat) : Option Tmp := (ops[j]?).bind (·.dst)
/-- The operations on whose values an operation looks. -/
def depsOf (ops : Array Oper) (o : Oper) : List Nat := (List.range ops.size).filter fun j => match dstOf ops j with | some d => (o.looksAt ops).contains d | none => false
/-- The values of some operations, put where they belong. -/
def fillL (ops : Array Oper) (vs : Nat → Value) (a : Act) (l : List Nat) : Act := l.foldl (fun a j => a.put (dstOf ops j) (vs j)) a
/-- A region each of whose operations waits for those on which it looks, and has a place of its own. -/
def famOk (ops : Array Oper) : Bool := Region.noSelect ops && (List.range ops.size).all fun i => match ops[i]? with
  | none => true
  | some o => (o.after.all fun e => !Region.binds .any e || decide (e.on < i)) && ((depsOf ops o).all fun j => o.after.any fun e => Region.binds .any e && e.on == j) &&
    ((List.range ops.size).all fun j => j == i || (match dstOf ops j with | some d => o.dst != some d | none => true))
theorem put_size (a : Act) (d : Option Tmp) (v : Value) : (a.put d v).tmps.size = a.tmps.size := by cases d <;> simp [Act.put]
theorem put_defs (a : Act) (d : Option Tmp) (v : Value) : (a.put d v).defers = a.defers := by cases d <;> rfl
theorem put_at_ne (a : Act) (d : Option Tmp) (v : Value) (t : Tmp) (h : d ≠ some t) : (a.put d v).tmps[t]? = a.tmps[t]? := by
  cases d with
  | none => rfl
  | some d =>
    have hne : d ≠ t := fun e => h (by rw [e])
    simp [Act.put, Array.getElem?_setIfInBounds_ne hne]
theorem put_at_eq (a : Act) (v : Value) (t : Tmp) : (a.put (some t) v).tmps[t]? = if t < a.tmps.size then some v else none := by
  show (a.tmps.setIfInBounds t v)[t]? = _
  rw [Array.getElem?_setIfInBounds]
  simp
theorem fill_cons (ops : Array Oper) (vs : Nat → Value) (a : Act) (j : Nat) (l : List Nat) : fillL ops vs a (j :: l) = fillL ops vs (a.put (dstOf ops j) (vs j)) l := rfl
theorem fill_size (ops : Array Oper) (vs : Nat → Value) : ∀ (l : List Nat) (a : Act), (fillL ops vs a l).tmps.size = a.tmps.size
  | [], _ => rfl
  | j :: l, a => by rw [fill_cons, fill_size ops vs l, put_size]
theorem fill_defs (ops : Array Oper) (vs : Nat → Value) : ∀ (l : List Nat) (a : Act), (fillL ops vs a l).defers = a.defers
  | [], _ => rfl
  | j :: l, a => by rw [fill_cons, fill_defs ops vs l, put_defs]
theorem fill_none (ops : Array Oper) (vs : Nat → Value) (t : Tmp) : ∀ (l : List Nat) (a : Act), (∀ j ∈ l, dstOf ops j ≠ some t) → (fillL ops vs a l).tmps[t]? = a.tmps[t]?
  | [], _, _ => rfl
  | j :: l, a, h => by
    rw [fill_cons, fill_none ops vs t l _ (fun k hk => h k (List.mem_cons_of_mem _ hk)), put_at_ne _ _ _ _ (h j (List.mem_cons_self))]
theorem fill_some (ops : Array Oper) (vs : Nat → Value) (t : Tmp) (j : Nat) (hj : dstOf ops j = some t) : ∀ (l : List Nat) (a : Act), j ∈ l → (∀ k ∈ l, dstOf ops k = some t → k = j) →
    (fillL ops vs a l).tmps[t]? = if t < a.tmps.size then some (vs j) else none
  | [], _, h, _ => by cases h
  | k :: l, a, h, hu => by
    rw [fill_cons]
    by_cases hm : j ∈ l
    · rw [fill_some ops vs t j hj l _ hm (fun k hk => hu k (List.mem_cons_of_mem _ hk)), put_size]
    · have hk : k = j := by
        rcases List.mem_cons.1 h with h | h
        · exact h.symm
        · exact absurd h hm
      subst hk
      rw [fill_none ops vs t l _ (fun i hi e => hm (by have := hu i (List.mem_cons_of_mem _ hi) e; rwa [this] at hi)), hj, put_at_eq]
theorem fill_congr (ops : Array Oper) (vs vs' : Nat → Value) : ∀ (l : List Nat) (a : Act), (∀ j ∈ l, vs j = vs' j) → fillL ops vs a l = fillL ops vs' a l
  | [], _, _ => rfl
  | j :: l, a, h => by rw [fill_cons, fill_cons, h j (List.mem_cons_self), fill_congr ops vs vs' l _ (fun k hk => h k (List.mem_cons_of_mem _ hk))]
theorem fill_snoc (ops : Array Oper) (vs : Nat → Value) (l : List Nat) (a : Act) (j : Nat) : fillL ops vs a (l ++ [j]) = (fillL ops vs a l).put (dstOf ops j) (vs j) := by
  unfold fillL
  rw [List.foldl_append]
  rfl
theorem nodup_le : ∀ (l m : List Nat), l.Nodup → (∀ k ∈ l, k ∈ m) → l.length ≤ m.length
  | [], _, _, _ => Nat.zero_le _
  | x :: l, m, hn, hs => by
    have hx := hs x List.mem_cons_self
    have h1 := nodup_le l (m.erase x) (List.nodup_cons.1 hn).2 (fun k hk => (List.mem_erase_of_ne (fun (e : k = x) => (List.nodup_cons.1 hn).1 (by rw [← e]; exact hk))).2 (hs k (List.mem_cons_of_mem _ hk)))
    rw [List.length_erase_of_mem hx] at h1
    have := List.length_pos_of_mem hx
    rw [List.length_cons]
    omega
section
variable {P : Program} {ops : Array Oper}
theorem famOk_at (h : famOk ops = true) {i : Nat} {o : Oper} (ho : ops[i]? = some o) :
    (∀ e ∈ o.after, Region.binds .any e = true → e.on < i) ∧ (∀ j ∈ depsOf ops o, ∃ e ∈ o.after, Region.binds .any e = true ∧ e.on = j) ∧ (∀ j d, j ≠ i → dstOf ops j = some d → o.dst ≠ some d) := by
  have hi : i < ops.size := (Array.getElem?_eq_some_iff.1 ho).1
  have h2 := (Bool.and_eq_true _ _ ▸ h).2
  have h3 := (List.all_eq_true.1 h2) i (List.mem_range.2 hi)
  simp only [ho, Bool.and_eq_true] at h3
  obtain ⟨⟨h4, h5⟩, h6⟩ := h3
  refine ⟨fun e he hb => ?_, fun j hj => ?_, fun j d hne hd => ?_⟩
  · have := Array.all_eq_true_iff_forall_mem.1 h4 e he
    simpa [hb] using this
  · have := (List.all_eq_true.1 h5) j hj
    obtain ⟨e, he, hb⟩ := Array.any_eq_true'.1 this
    simp only [Bool.and_eq_true, beq_iff_eq] at hb
    exact ⟨e, he, hb.1, hb.2⟩
  · have hj : j < ops.size := by
      unfold dstOf at hd
      rcases Nat.lt_or_ge j ops.size with h' | h'
      · exact h'
      · rw [Array.getElem?_eq_none h'] at hd; cases hd
    have := (List.all_eq_true.1 h6) j (List.mem_range.2 hj)
    simp only [Bool.or_eq_true, beq_iff_eq, hne, false_or, hd] at this
    simpa using this
theorem famOk_inj (h : famOk ops = true) {i j : Nat} {d : Tmp} (hi : dstOf ops i = some d) (hj : dstOf ops j = some d) : i = j := by
  refine Classical.byContradiction fun hne => ?_
  have hi2 := hi
  unfold dstOf at hi2
  obtain ⟨o, ho, hod⟩ := Option.bind_eq_some_iff.1 hi2
  exact (famOk_at h ho).2.2 j d (fun e => hne e.symm) hj hod
/-- Two states of which an operation sees the same. -/
theorem fill_looks (h : famOk ops = true) {o : Oper} (vs : Nat → Value) (a : Act) (l : List Nat) (hl : ∀ j ∈ depsOf ops o, j ∈ l) (t : Tmp) (ht : t ∈ o.looksAt ops) (hlt : ∀ j ∈ l, j < ops.size) :
    (fillL ops vs a l).tmps[t]? = (fillL ops vs a (depsOf ops o)).tmps[t]? := by
  by_cases hj : ∃ j, j < ops.size ∧ dstOf ops j = some t
  · obtain ⟨j, hjs, hj⟩ := hj
    have hd : j ∈ depsOf ops o := by
      unfold depsOf
      rw [List.mem_filter, List.mem_range]
      refine ⟨hjs, ?_⟩
      simp only [hj]
      simpa using ht
    rw [fill_some ops vs t j hj l a (hl j hd) (fun k _ hk => famOk_inj h hk hj), fill_some ops vs t j hj _ a hd (fun k _ hk => famOk_inj h hk hj)]
  · rw [fill_none ops vs t l a (fun j hjl e => hj ⟨j, hlt j hjl, e⟩), fill_none ops vs t _ a (fun j hjl e => hj ⟨j, by unfold depsOf at hjl; rw [List.mem_filter, List.mem_range] at hjl; exact hjl.1, e⟩)]
theorem exec_looks {o : Oper} (hs : ∀ cs b, o.op ≠ .select cs b) (a a' : Act) (h : ∀ t ∈ o.looksAt ops, a.tmps[t]? = a'.tmps[t]?) : execOp a.eval o = execOp a'.eval o := by
  refine execOp_congr o hs fun x hx => ?_
  cases x with
  | tmp t =>
    have ht : t ∈ o.looksAt ops := List.mem_append_left _ (List.mem_filterMap.2 ⟨.tmp t, by simpa using hx, rfl⟩)
    simp only [Act.eval, Array.getD_eq_getD_getElem?, h t ht]
  | _ => rfl
theorem wanted_looks {o : Oper} (a a' : Act) (h : ∀ t ∈ o.looksAt ops, a.tmps[t]? = a'.tmps[t]?) : Region.wanted o (yielded ops a.tmps) = Region.wanted o (yielded ops a'.tmps) := by
  unfold Region.wanted
  cases hg : o.guard with
  | none => rfl
  | some gw =>
    obtain ⟨g, want⟩ := gw
    have hy : yielded ops a.tmps g = yielded ops a'.tmps g := by
      unfold yielded
      cases ht : (ops[g]?).bind (·.dst) with
      | none => rfl
      | some t =>
        have := h t (by simp [Oper.looksAt, hg, ht])
        simp only [Option.bind_some, this]
    simp only [hy]
/-- What is to be shown of an operation: of its value, in whatever world above w0, where what it looks at is there. -/
def famStep (P : Program) (ops : Array Oper) (a0 : Act) (w0 : World) (Φ : Nat → Value → World → Prop) (i : Nat) (o : Oper) : Prop :=
  ∀ (vs : Nat → Value) (W : World), Below w0.heap.size w0 W → (∀ j ∈ depsOf ops o, Φ j (vs j) W) →
    ∀ K : Act → World → Prop, (∀ v a' W', a'.defers = (fillL ops vs a0 (depsOf ops o)).defers → (∀ d, o.dst = some d → a'.tmps[d]? = if d < a0.tmps.size then some v else none) → Φ i v W' → Below W.heap.size W W' → K a' W') →
      if Region.wanted o (yielded ops (fillL ops vs a0 (depsOf ops o)).tmps) = true then Oper.wp P o (fillL ops vs a0 (depsOf ops o)) W K (fun _ _ _ => False) else K ((fillL ops vs a0 (depsOf ops o)).put o.dst undef) W
/-- Behind an operation. -/
def famPost (o : Oper) (a0 ac : Act) (Φi : Value → World → Prop) (W : World) (a' : Act) (W' : World) : Prop :=
  ∃ v, a'.defers = ac.defers ∧ (∀ d, o.dst = some d → a'.tmps[d]? = if d < a0.tmps.size then some v else none) ∧ Φi v W' ∧ Below W.heap.size W W'
theorem famPost_put {o : Oper} {a0 ac : Act} {Φi : Value → World → Prop} {W W' : World} {v : Value} (hsz : ac.tmps.size = a0.tmps.size) (h : famPost o a0 ac Φi W (ac.put o.dst v) W') :
    ∃ u, ac.put o.dst u = ac.put o.dst v ∧ Φi u W' ∧ Below W.heap.size W W' := by
  obtain ⟨u, _, h1, h2, h3⟩ := h
  refine ⟨u, ?_, h2, h3⟩
  cases hd : o.dst with
  | none => rfl
  | some d =>
    have := h1 d hd
    rw [hd, put_at_eq, hsz] at this
    by_cases hlt : d < a0.tmps.size
    · rw [if_pos hlt, if_pos hlt] at this
      injection this with this
      rw [this]
    · have hle : ac.tmps.size ≤ d := by rw [hsz]; exact Nat.not_lt.1 hlt
      have e : ∀ x, ac.put (some d) x = ac := fun x => by
        show ({ ac with tmps := ac.tmps.setIfInBounds d x } : Act) = ac
        rw [Array.setIfInBounds_eq_of_size_le hle]
      rw [e, e]
theorem put_same {a ac : Act} {d : Option Tmp} {u v : Value} (h : ac.put d u = ac.put d v) (hsz : a.tmps.size = ac.tmps.size) : a.put d u = a.put d v := by
  cases d with
  | none => rfl
  | some d =>
    by_cases hlt : d < ac.tmps.size
    · have h1 := congrArg (fun x : Act => x.tmps[d]?) h
      simp only [put_at_eq, if_pos hlt, Option.some.injEq] at h1
      rw [h1]
    · have hle : a.tmps.size ≤ d := by rw [hsz]; exact Nat.not_lt.1 hlt
      have e : ∀ x, a.put (some d) x = a := fun x => by
        show ({ a with tmps := a.tmps.setIfInBounds d x } : Act) = a
        rw [Array.setIfInBounds_eq_of_size_le hle]
      rw [e, e]
/-- The operation, run where it comes up. -/
theorem famStep_run (h : famOk ops = true) {a0 : Act} {w0 : World} {Φ : Nat → Value → World → Prop} {i : Nat} {o : Oper} (ho : ops[i]? = some o) (hst : famStep P ops a0 w0 Φ i o) {Q : Exit → Act → World → Prop}
    (vs : Nat → Value) (l : List Nat) (hlt : ∀ j ∈ l, j < ops.size) (hl : ∀ j ∈ depsOf ops o, j ∈ l) (W : World) (hB : Below w0.heap.size w0 W) (hΦ : ∀ j ∈ l, Φ j (vs j) W) {K : Act → World → Prop}
    (hK : ∀ v W', Φ i v W' → Below W.heap.size W W' → K ((fillL ops vs a0 l).put o.dst v) W') : wpOp P ops Q i K (fillL ops vs a0 l) W := by
  have hlooks : ∀ t ∈ o.looksAt ops, (fillL ops vs a0 l).tmps[t]? = (fillL ops vs a0 (depsOf ops o)).tmps[t]? := fun t ht => fill_looks h vs a0 l hl t ht hlt
  have hsel : ∀ cs b, o.op ≠ .select cs b := fun cs b => Region.noSelect_spec (Bool.and_eq_true _ _ ▸ h).1 i o cs b ho
  have hs := hst vs W hB (fun j hj => hΦ j (hl j hj)) (famPost o a0 (fillL ops vs a0 (depsOf ops o)) (Φ i) W) (fun v a' W' h1 h2 h3 h4 => ⟨v, h1, h2, h3, h4⟩)
  unfold wpOp
  rw [ho]
  simp only
  rw [wanted_looks _ _ hlooks]
  have hz1 := fill_size ops vs (depsOf ops o) a0
  have hz2 := fill_size ops vs l a0
  have hd1 := fill_defs ops vs (depsOf ops o) a0
  generalize hac : fillL ops vs a0 (depsOf ops o) = ac at *
  generalize ha : fillL ops vs a0 l = a at *
  have fin : ∀ v W', famPost o a0 ac (Φ i) W (ac.put o.dst v) W' → K (a.put o.dst v) W' := fun v W' hp => by
    obtain ⟨u, e, h1, h2⟩ := famPost_put hz1 hp
    rw [← put_same e (by omega)]
    exact hK u W' h1 h2
  split
  · rename_i hw
    rw [if_pos hw] at hs
    refine .inl ?_
    unfold Oper.wp at *
    rw [exec_looks hsel a ac hlooks]
    generalize (execOp ac.eval o).run P W = r at *
    cases r with
    | ok n w' =>
      cases n <;> simp only [Oper.upon] at hs ⊢
      case value u => exact fin u w' hs
      case skip => exact fin undef w' hs
      case defer d =>
        obtain ⟨v, e, _⟩ := hs
        rw [put_defs] at e
        have := congrArg List.length e
        simp at this
      case enter f args =>
        refine Calls.mono hs fun e w'' he => ?_
        cases e with
        | returned u => exact fin u w'' he
        | panicked c => exact he.elim
        | outgrown => exact (by obtain ⟨_, _, h9⟩ := (show LetsOut _ from he); exact h9.elim)
      case row row args => exact Rows.mono hs fun u w'' he => fin u w'' he
    | halt x w' =>
      cases x <;> simp only [Oper.upon] at hs ⊢
      all_goals exact hs.elim
  · rename_i hw
    rw [if_neg hw] at hs
    exact fin undef W hs
/-- All operations, in whatever order. -/
theorem fam_any (h : famOk ops = true) {a0 : Act} {w0 : World} {Φ : Nat → Value → World → Prop} {Q : Exit → Act → World → Prop}
    (hst : ∀ i v (W W' : World), Φ i v W → Below W.heap.size W W' → Φ i v W') (hs : ∀ i o, ops[i]? = some o → famStep P ops a0 w0 Φ i o)
    (hQ : ∀ (vs : Nat → Value) (W : World), Below w0.heap.size w0 W → (∀ j, j < ops.size → Φ j (vs j) W) → Q .normal (fillL ops vs a0 (List.range ops.size)) W) :
    ∀ (fuel : Nat) (listed : Array Bool) (vs : Nat → Value) (l : List Nat) (W : World), listed.size = ops.size → l.Nodup → (∀ j, j < ops.size → (listed.getD j true = true ↔ j ∈ l)) → (∀ j ∈ l, j < ops.size) → ops.size ≤ fuel + l.length →
      Below w0.heap.size w0 W → (∀ j ∈ l, Φ j (vs j) W) → wpAny P .any ops Q fuel listed (fillL ops vs a0 l) W := by
  have done : ∀ (listed : Array Bool) (vs : Nat → Value) (l : List Nat) (W : World), l.Nodup → (∀ j ∈ l, j < ops.size) → (∀ j, j < ops.size → j ∈ l) → Below w0.heap.size w0 W → (∀ j ∈ l, Φ j (vs j) W) → Q .normal (fillL ops vs a0 l) W := fun listed vs l W hnd hlt hall hB hΦ => by
    have hp : l.Perm (List.range ops.size) := (List.perm_ext_iff_of_nodup hnd List.nodup_range).2 fun j => ⟨fun hj => List.mem_range.2 (hlt j hj), fun hj => hall j (List.mem_range.1 hj)⟩
    have e : fillL ops vs a0 l = fillL ops vs a0 (List.range ops.size) := by
      unfold fillL
      refine hp.foldl_eq' (fun x _ y _ z => ?_) a0
      by_cases hxy : x = y
      · rw [hxy]
      · exact Act.put_comm z (vs x) (vs y) fun d hd hd2 => hxy (famOk_inj h hd hd2)
    rw [e]
    exact hQ vs W hB fun j hj => hΦ j (hall j hj)
  intro fuel
  induction fuel with
  | zero =>
    intro listed vs l W hz hnd hli hlt hle hB hΦ
    have hall : ∀ j, j < ops.size → j ∈ l := fun j hj => by
      refine Classical.byContradiction fun hn => ?_
      have h1 : (j :: l).Nodup := List.nodup_cons.2 ⟨hn, hnd⟩
      have h2 : (j :: l).length ≤ (List.range ops.size).length := nodup_le _ _ h1 (fun k hk => by
        rcases List.mem_cons.1 hk with rfl | hk
        · exact List.mem_range.2 hj
        · exact List.mem_range.2 (hlt k hk))
      simp at h2
      omega
    refine ⟨?_, done listed vs l W hnd hlt hall hB hΦ⟩
    refine List.eq_nil_iff_forall_not_mem.2 fun j hj => ?_
    obtain ⟨h0, o, ho, _⟩ := mem_ready.1 hj
    have hjs := (Array.getElem?_eq_some_iff.1 ho).1
    rw [(hli j hjs).2 (hall j hjs)] at h0
    cases h0
  | succ fuel ih =>
    intro listed vs l W hz hnd hli hlt hle hB hΦ
    refine ⟨fun hr => ?_, fun i hi => ?_⟩
    · refine done listed vs l W hnd hlt (fun j hj => ?_) hB hΦ
      refine Nat.strongRecOn j (motive := fun j => j < ops.size → j ∈ l) (fun j ihj hj => ?_) hj
      refine Classical.byContradiction fun hn => ?_
      have hmem : j ∈ Region.ready .any ops listed := by
        rw [mem_ready]
        refine ⟨?_, ops[j], Array.getElem?_eq_getElem hj, fun e he hb => ?_⟩
        · cases hg : listed.getD j true with
          | false => rfl
          | true => exact absurd ((hli j hj).1 hg) hn
        · have hlt2 := (famOk_at h (Array.getElem?_eq_getElem hj)).1 e he hb
          have := (hli e.on (by omega)).2 (ihj e.on hlt2 (by omega))
          have hsz : e.on < listed.size := by omega
          simpa [hsz] using this
      rw [hr] at hmem
      cases hmem
    · obtain ⟨h0, o, ho, hall⟩ := mem_ready.1 hi
      have his : i < ops.size := (Array.getElem?_eq_some_iff.1 ho).1
      have hil : i ∉ l := fun hm => by
        rw [(hli i his).2 hm] at h0
        cases h0
      refine famStep_run h ho (hs i o ho) vs l hlt (fun j hj => ?_) W hB hΦ fun v W' hv hB' => ?_
      · obtain ⟨e, he, hb, rfl⟩ := (famOk_at h ho).2.1 j hj
        have h1 := hall e he hb
        have hes : e.on < ops.size := Nat.lt_trans ((famOk_at h ho).1 e he hb) his
        refine (hli e.on hes).1 ?_
        have hsz : e.on < listed.size := by omega
        simpa [hsz] using h1
      · have hvs : ∀ j ∈ l, vs j = (fun j => if j = i then v else vs j) j := fun j hj => by
          have : j ≠ i := fun e => hil (e ▸ hj)
          simp [this]
        have e : (fillL ops vs a0 l).put o.dst v = fillL ops (fun j => if j = i then v else vs j) a0 (l ++ [i]) := by
          rw [fill_snoc, ← fill_congr ops vs _ l a0 hvs]
          simp [dstOf, ho]
        rw [e]
        refine ih _ _ _ _ (by rw [Array.size_setIfInBounds]; exact hz) ?_ ?_ ?_ ?_ (hB.trans (hB'.mono hB.size)) ?_
        · rw [List.nodup_append]
          exact ⟨hnd, by simp, fun a ha b hb => by simp at hb; exact fun e => hil (by rw [← hb, ← e]; exact ha)⟩
        · intro j hj
          by_cases hji : j = i
          · subst hji
            have hsz : j < listed.size := by omega
            simp [hsz]
          · rw [getD_set_ne true (fun e => hji e.symm), hli j hj]
            simp [hji]
        · intro j hj
          rcases List.mem_append.1 hj with hj | hj
          · exact hlt j hj
          · simp at hj; rw [hj]; exact his
        · rw [List.length_append, List.length_singleton]; omega
        · intro j hj
          rcases List.mem_append.1 hj with hj | hj
          · have e2 := hvs j hj
            simp only at e2
            rw [← e2]; exact hst _ _ _ _ (hΦ j hj) hB'
          · simp at hj; subst hj; simpa using hv
/-- **A region that draws its order, by what its operations' values are.** -/
theorem wp_region_fam {id : Nat} {a0 : Act} {w0 : World} {Q : Exit → Act → World → Prop} (Φ : Nat → Value → World → Prop) (hm : P.follows .mixedOrders = true) (h : famOk ops = true)
    (hst : ∀ i v (W W' : World), Φ i v W → Below W.heap.size W W' → Φ i v W') (hs : ∀ i o, ops[i]? = some o → famStep P ops a0 w0 Φ i o)
    (hQ : ∀ (vs : Nat → Value) (W : World), Below w0.heap.size w0 W → (∀ j, j < ops.size → Φ j (vs j) W) → Q .normal (fillL ops vs a0 (List.range ops.size)) W) : (Code.region id ops true).wp P Q a0 w0 := by
  refine wp_region_any hm ?_
  exact fam_any h hst hs hQ ops.size (Array.replicate ops.size false) (fun _ => undef) [] _ (by simp) List.nodup_nil (fun j hj => by simp [hj]) (fun j hj => by cases hj) (by simp)
    ⟨rfl, rfl, rfl, Nat.le_refl _, fun _ _ => rfl⟩ (fun j hj => by cases hj)
/-- For all values of some operations, as they are said to be. -/
def famGo (Φ : Nat → Value → World → Prop) (W : World) (G : Act → Prop) : List (Nat × Option Tmp) → Act → Prop
  | [], a => G a
  | (j, d) :: r, a => ∀ v, Φ j v W → famGo Φ W G r (a.put d v)
theorem famGo_fill (ops : Array Oper) (Φ : Nat → Value → World → Prop) (W : World) (G : Act → Prop) (vs : Nat → Value) : ∀ (l : List Nat) (a : Act), (∀ j ∈ l, Φ j (vs j) W) → famGo Φ W G (l.map fun j => (j, dstOf ops j)) a → G (fillL ops vs a l)
  | [], _, _, h => h
  | j :: l, a, hΦ, h => by
    rw [fill_cons]
    exact famGo_fill ops Φ W G vs l _ (fun k hk => hΦ k (List.mem_cons_of_mem _ hk)) (h (vs j) (hΦ j List.mem_cons_self))
/-- One operation. -/
def famOp (P : Program) (ops : Array Oper) (Φ : Nat → Value → World → Prop) (i : Nat) (o : Oper) (W : World) (a : Act) : Prop :=
  ∀ K : Act → World → Prop, (∀ v W', Φ i v W' → Below W.heap.size W W' → K (a.put o.dst v) W') → if Region.wanted o (yielded ops a.tmps) = true then Oper.wp P o a W K (fun _ _ _ => False) else K (a.put o.dst undef) W
theorem famStep_of {a0 : Act} {w0 : World} {Φ : Nat → Value → World → Prop} {i : Nat} {o : Oper} (ds : List (Nat × Option Tmp)) (hds : (depsOf ops o).map (fun j => (j, dstOf ops j)) = ds)
    (h : ∀ W, Below w0.heap.size w0 W → famGo Φ W (famOp P ops Φ i o W) ds a0) : famStep P ops a0 w0 Φ i o := by
  subst hds
  intro vs W hB hd K hK
  refine famGo_fill ops Φ W _ vs _ a0 hd (h W hB) K (fun v W' h1 h2 => hK v _ W' (put_defs _ _ _) (fun d hdst => ?_) h1 h2)
  rw [hdst, put_at_eq, fill_size]
/-- All operations, one behind the other. -/
def famAll (Ψ : Nat → Oper → Prop) : Nat → List Oper → Prop
  | _, [] => True
  | i, o :: r => Ψ i o ∧ famAll Ψ (i + 1) r
theorem famAll_at (Ψ : Nat → Oper → Prop) : ∀ (l : List Oper) (k : Nat), famAll Ψ k l → ∀ i o, l[i]? = some o → Ψ (k + i) o
  | [], _, _, i, o, h => by simp at h
  | x :: l, k, hx, 0, o, h => by
    simp at h
    subst h
    exact hx.1
  | x :: l, k, hx, i + 1, o, h => by
    have := famAll_at Ψ l (k + 1) hx.2 i o (by simpa using h)
    rwa [show k + 1 + i = k + (i + 1) by omega] at this
/-- A saying that lasts. -/
def Lasts (p : Value → World → Prop) : Prop := ∀ v W W', p v W → Below W.heap.size W W' → p v W'
def phi (L : List (Value → World → Prop)) (i : Nat) : Value → World → Prop := L.getD i (fun _ _ => True)
def allLast : List (Value → World → Prop) → Prop
  | [] => True
  | p :: r => Lasts p ∧ allLast r
theorem phi_lasts : ∀ (L : List (Value → World → Prop)), allLast L → ∀ i, Lasts (phi L i)
  | [], _, i => fun _ _ _ h _ => by simp [phi]
  | p :: r, h, 0 => h.1
  | p :: r, h, i + 1 => phi_lasts r h.2 i
/-- **A region that draws its order: of each operation what its value is.** -/
theorem wp_region_say {id : Nat} {a0 : Act} {w0 : World} {Q : Exit → Act → World → Prop} (L : List (Value → World → Prop)) (all : List (Nat × Option Tmp)) (hm : P.follows .mixedOrders = true) (h : famOk ops = true)
    (hall : (List.range ops.size).map (fun j => (j, dstOf ops j)) = all) (hst : allLast L) (hs : famAll (famStep P ops a0 w0 (phi L)) 0 ops.toList)
    (hQ : ∀ W, Below w0.heap.size w0 W → famGo (phi L) W (fun a => Q .normal a W) all a0) : (Code.region id ops true).wp P Q a0 w0 := by
  subst hall
  refine wp_region_fam (phi L) hm h (fun i v W W' h1 h2 => phi_lasts L hst i v W W' h1 h2) (fun i o ho => ?_) (fun vs W hB hΦ => famGo_fill ops (phi L) W _ vs _ a0 (fun j hj => hΦ j (List.mem_range.1 hj)) (hQ W hB))
  have := famAll_at _ ops.toList 0 hs i o (by rw [Array.getElem?_toList]; exact ho)
  rwa [Nat.zero_add] at this
def isV (c : Value) : Value → World → Prop := fun v _ => v = c
theorem last_V (c : Value) : Lasts (isV c) := fun _ _ _ h _ => h
def any_ : Value → World → Prop := fun _ _ => True
theorem last_any : Lasts any_ := fun _ _ _ h _ => h
end
end Go.Proofs.Ytacbenjfiabegaa

/- A region that draws its order, walked once: the same law, told more shortly (each operation's value, or what it reads as). -/
namespace Go.Proofs.Ytacbenjfiabegaa
open Go Go.RowKit

/-- What is said of an operation: its value; or what its value reads as. -/
inductive Say where
  | v (c : Value)
  | p (f : Value → World → Prop)
def Say.ok : Say → Value → World → Prop
  | .v c, u, _ => u = c
  | .p f, u, W => f u W
def Say.lasts : Say → Prop
  | .v _ => True
  | .p f => Lasts f
theorem Say.last {s : Say} (h : s.lasts) : Lasts s.ok := by
  cases s with
  | v c => exact fun _ _ _ h _ => h
  | p f => exact h
def sayAt (L : List Say) (i : Nat) : Say := L.getD i (.p fun _ _ => True)
def sayLast : List Say → Prop
  | [] => True
  | s :: r => s.lasts ∧ sayLast r
theorem sayAt_last : ∀ (L : List Say), sayLast L → ∀ i, Lasts (sayAt L i).ok
  | [], _, i => fun _ _ _ _ _ => by simp [sayAt, Say.ok]
  | s :: r, h, 0 => Say.last h.1
  | s :: r, h, i + 1 => sayAt_last r h.2 i
/-- For all values of some operations, as they are said to be. -/
def tellGo (L : List Say) (W : World) (G : Act → Prop) : List (Nat × Option Tmp) → Act → Prop
  | [], a => G a
  | (j, d) :: r, a => match sayAt L j with
    | .v c => tellGo L W G r (a.put d c)
    | .p f => ∀ u, f u W → tellGo L W G r (a.put d u)
theorem tellGo_fam (L : List Say) (W : World) (G : Act → Prop) : ∀ (l : List (Nat × Option Tmp)) (a : Act), tellGo L W G l a → famGo (fun i => (sayAt L i).ok) W G l a
  | [], _, h => h
  | (j, d) :: r, a, h => by
    intro u hu
    unfold tellGo at h
    cases hs : sayAt L j with
    | v c =>
      rw [hs] at h hu
      have hu : u = c := hu
      subst hu
      exact tellGo_fam L W G r _ h
    | p f =>
      rw [hs] at h hu
      exact tellGo_fam L W G r _ (h u hu)
/-- Is an operation carried out? -/
def wantedBy (gd : Option (Option Tmp × Bool)) (tmps : Array Value) : Bool := match gd with
  | none => true
  | some (d, b) => (match d.bind (tmps[·]?) with | some (.bool c) => some c | _ => none) == some b
def gdOf (ops : Array Oper) (o : Oper) : Option (Option Tmp × Bool) := match o.guard with
  | none => none
  | some (g, b) => some (dstOf ops g, b)
theorem wanted_by (ops : Array Oper) (o : Oper) (tmps : Array Value) : Region.wanted o (yielded ops tmps) = wantedBy (gdOf ops o) tmps := by
  unfold Region.wanted wantedBy gdOf
  cases o.guard with
  | none => rfl
  | some gw =>
    obtain ⟨g, b⟩ := gw
    rfl
def tellK (K : Act → World → Prop) (o : Oper) (W : World) (a : Act) : Say → Prop
  | .v c => ∀ W', Below W.heap.size W W' → K (a.put o.dst c) W'
  | .p f => ∀ u W', f u W' → Below W.heap.size W W' → K (a.put o.dst u) W'
/-- One operation. -/
def tellOp (P : Program) (s : Say) (o : Oper) (gd : Option (Option Tmp × Bool)) (W : World) (a : Act) : Prop :=
  ∀ K : Act → World → Prop, tellK K o W a s → if wantedBy gd a.tmps = true then Oper.wp P o a W K (fun _ _ _ => False) else K (a.put o.dst undef) W
theorem tell_do {p q : Prop} {gd : Option (Option Tmp × Bool)} {t : Array Value} (h : wantedBy gd t = true) (k : p) : if wantedBy gd t = true then p else q := by rw [if_pos h]; exact k
theorem tell_not {p q : Prop} {gd : Option (Option Tmp × Bool)} {t : Array Value} (h : wantedBy gd t = false) (k : q) : if wantedBy gd t = true then p else q := by rw [if_neg (by rw [h]; simp)]; exact k
abbrev Tel := List (Nat × Option Tmp) × Option (Option Tmp × Bool)
abbrev Tab := List Tel
def tabOf (ops : Array Oper) : Tab := ops.toList.map fun o => ((depsOf ops o).map (fun j => (j, dstOf ops j)), gdOf ops o)
/-- All operations, one behind the other. -/
def tellAll (P : Program) (a0 : Act) (w0 : World) (L : List Say) : List Say → List Oper → Tab → Prop
  | s :: S, o :: r, t :: T => (∀ W, Below w0.heap.size w0 W → tellGo L W (tellOp P s o t.2 W) t.1 a0) ∧ tellAll P a0 w0 L S r T
  | _, [], _ => True
  | _, _, _ => False
theorem tellAll_at {P : Program} {a0 : Act} {w0 : World} {L : List Say} : ∀ (S : List Say) (l : List Oper) (T : Tab), tellAll P a0 w0 L S l T → ∀ (i : Nat) (o : Oper), l[i]? = some o → ∃ (s : Say) (t : Tel), S[i]? = some s ∧ T[i]? = some t ∧ ∀ W, Below w0.heap.size w0 W → tellGo L W (tellOp P s o t.2 W) t.1 a0
  | s :: S, x :: r, t :: T, h, 0, o, ho => by
    simp at ho
    subst ho
    exact ⟨s, t, rfl, rfl, h.1⟩
  | s :: S, x :: r, t :: T, h, i + 1, o, ho => by
    obtain ⟨s', t', h1, h2, h3⟩ := tellAll_at S r T h.2 i o (by simpa using ho)
    exact ⟨s', t', by simpa using h1, by simpa using h2, h3⟩
  | _, [], _, _, i, o, ho => by simp at ho
  | [], x :: r, _, h, _, _, _ => by simp [tellAll] at h
  | s :: S, x :: r, [], h, _, _, _ => by simp [tellAll] at h
/-- **A region that draws its order: of each operation what its value is.** -/
theorem wp_region_tell {P : Program} {ops : Array Oper} {id : Nat} {a0 : Act} {w0 : World} {Q : Exit → Act → World → Prop} (L : List Say) (T : Tab) (all : List (Nat × Option Tmp)) (hm : P.follows .mixedOrders = true) (h : famOk ops = true)
    (hT : tabOf ops = T) (hall : (List.range ops.size).map (fun j => (j, dstOf ops j)) = all) (hst : sayLast L) (hs : tellAll P a0 w0 L L ops.toList T)
    (hQ : ∀ W, Below w0.heap.size w0 W → tellGo L W (fun a => Q .normal a W) all a0) : (Code.region id ops true).wp P Q a0 w0 := by
  subst hall
  subst hT
  refine wp_region_fam (fun i => (sayAt L i).ok) hm h (fun i v W W' h1 h2 => sayAt_last L hst i v W W' h1 h2) (fun i o ho => ?_) (fun vs W hB hΦ => famGo_fill ops _ W _ vs _ a0 (fun j hj => hΦ j (List.mem_range.1 hj)) (tellGo_fam L W _ _ _ (hQ W hB)))
  obtain ⟨s, t, h1, h2, h3⟩ := tellAll_at L ops.toList (tabOf ops) hs i o (by rw [Array.getElem?_toList]; exact ho)
  have ht : t = ((depsOf ops o).map (fun j => (j, dstOf ops j)), gdOf ops o) := by
    unfold tabOf at h2
    rw [List.getElem?_map, Array.getElem?_toList, ho] at h2
    simpa using h2.symm
  subst ht
  have hsy : sayAt L i = s := by unfold sayAt; rw [List.getD_eq_getElem?_getD, h1]; rfl
  refine famStep_of _ rfl (fun W hB => tellGo_fam L W _ _ _ ?_)
  have h4 := h3 W hB
  have key : ∀ a, tellOp P s o (gdOf ops o) W a → famOp P ops (fun i => (sayAt L i).ok) i o W a := fun a ha K hK => by
    rw [wanted_by]
    refine ha K ?_
    cases s with
    | v c => exact fun W' hB' => hK c W' (by show (sayAt L i).ok c W'; rw [hsy]; rfl) hB'
    | p f => exact fun u W' hu hB' => hK u W' (by show (sayAt L i).ok u W'; rw [hsy]; exact hu) hB'
  have mono : ∀ (l : List (Nat × Option Tmp)) (a : Act) (G G' : Act → Prop), (∀ a, G a → G' a) → tellGo L W G l a → tellGo L W G' l a := by
    intro l
    induction l with
    | nil => exact fun a G G' hg h => hg a h
    | cons x r ih =>
      intro a G G' hg h
      obtain ⟨j, d⟩ := x
      unfold tellGo at h ⊢
      cases hs : sayAt L j with
      | v c => rw [hs] at h; exact ih _ G G' hg h
      | p f => rw [hs] at h; exact fun u hu => ih _ G G' hg (h u hu)
  exact mono _ _ _ _ key h4
end Go.Proofs.Ytacbenjfiabegaa

/- Words for regions that draw their order: what a value reads as. -/
namespace Go.Proofs.Ytacbenjfiabegaa
set_option linter.unusedVariables false
open Go.RowKit Go.Proofs.YtacbenjfiabegaaW.PrintWords Go.Proofs.Sh

def isB (l : List F) : Value → World → Prop := fun v W => Rb W v l
theorem last_B (l : List F) : Lasts (isB l) := fun _ _ _ h hB => Rk.below h hB
def isI (l : List Int) : Value → World → Prop := fun v W => Ri W v l
theorem last_I (l : List Int) : Lasts (isI l) := fun _ _ _ h hB => Rk.below h hB
def isBB (l : List (List F)) : Value → World → Prop := fun v W => Rbb W v l
theorem last_BB (l : List (List F)) : Lasts (isBB l) := fun _ _ _ h hB => Rk.below h hB
def isF : Value → World → Prop := fun v W => ∃ b, v = fp b ∧ IsField W b
theorem last_F : Lasts isF := fun _ _ _ ⟨b, h1, h2⟩ hB => ⟨b, h1, h2.below hB⟩
/-- A pair of bytes and something. -/
def isTB (l : List F) (c : Value) : Value → World → Prop := fun v W => ∃ z, v = .tuple #[z, c] ∧ Rb W z l
theorem last_TB (l : List F) (c : Value) : Lasts (isTB l c) := fun _ _ _ ⟨z, h1, h2⟩ hB => ⟨z, h1, Rk.below h2 hB⟩
def isTBB (l : List (List F)) (c : Value) : Value → World → Prop := fun v W => ∃ z, v = .tuple #[z, c] ∧ Rbb W z l
theorem last_TBB (l : List (List F)) (c : Value) : Lasts (isTBB l c) := fun _ _ _ ⟨z, h1, h2⟩ hB => ⟨z, h1, Rk.below h2 hB⟩
/-- Bytes of one's own. -/
def isO (w : World) (l : List F) : Value → World → Prop := fun v W => Ob w W v l
theorem last_O (w : World) (l : List F) : Lasts (isO w l) := fun _ _ _ h hB => Own.below h hB
def isOO (w : World) (l : List (List F)) : Value → World → Prop := fun v W => Obb w W v l
theorem last_OO (w : World) (l : List (List F)) : Lasts (isOO w l) := fun _ _ _ h hB => Own.below h hB
theorem alloc_b (W : World) (o : Obj) : Below W.heap.size W (W.alloc o) := below_alloc (Below.refl _ _) o
end Go.Proofs.Ytacbenjfiabegaa

/- Words for regions that draw their order, told shortly. -/
