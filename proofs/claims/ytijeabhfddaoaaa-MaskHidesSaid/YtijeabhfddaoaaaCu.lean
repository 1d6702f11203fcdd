/- A range over a function whose iterator keeps its rest in a variable of its own: the law of the statement. -/
import Derived.Test.YtijeabhfddaoaaaK4
import Derived.RangeFuncWrites
import Derived.RangeFuncLeaves
import Derived.RangeFuncCalls
namespace Go.Proofs.Ytijeabhfddaoaaa
set_option linter.unusedVariables false
open Go Go.RowKit

section
variable {P : Program} {l n : Nat}
theorem callsIn_round {f : FuncId} {args : Array Value} {w : World} {R : Ending → World → Prop} (h : Calls P f args w R) : CallsIn (Fence.wide.inRound l) n P f args w R := CallsIn.inRound l (callsIn_wide.2 h)
theorem rowsIn_round {row : String} {args : Array Value} {w : World} {R : Value → World → Prop} (h : Rows P row args w R) : RowsIn (Fence.wide.inRound l) n P row args w R := fun c cs _ =>
  let ⟨v, w', hr, hs⟩ := h c cs; ⟨v, w', hr, stepsIn_wide.2 hs⟩
theorem op_round {o : Oper} {a : Act} {W : World} {K Q : Act → World → Prop} {Q' : Exit → Act → World → Prop} (hnd : ∀ c, o.op ≠ .defer c) (h : o.wp P a W K Q') : o.wpIn (Fence.wide.inRound l) n P a W K Q' := by
  refine ⟨fun _ _ => trivial, ?_⟩
  rw [Oper.semAt_eq _ _ _ hnd]
  unfold Oper.wp at h
  generalize (execOp a.eval o).run P W = r at *
  cases r with
  | ok nx w' =>
    cases nx <;> simp only [Oper.upon, Oper.uponIn] at h ⊢ <;> first | exact h | exact ⟨fun e => by simp [Fence.inRound, Fence.wide] at e, callsIn_round h⟩ | exact ⟨fun e => by simp [Fence.inRound, Fence.wide] at e, rowsIn_round h⟩
  | halt x w' => cases x <;> simp only [Oper.upon, Oper.uponIn] at h ⊢ <;> exact h
def noDefer (L : List Oper) : Bool := L.all fun o => match o.op with | .defer _ => false | _ => true
theorem noDefer_at {L : List Oper} (h : noDefer L = true) {o : Oper} (ho : o ∈ L) (c : Call) : o.op ≠ .defer c := fun e => by
  have := (List.all_eq_true.1 h) o ho
  rw [e] at this
  cases this
theorem list_round {ops : Array Oper} {Q : Exit → Act → World → Prop} (hQ : ∀ a w, ¬ Q .outgrown a w) : ∀ (L : List Oper), noDefer L = true → ∀ (a : Act) (W : World), wpList P ops Q L a W → wpListIn (Fence.wide.inRound l) n P ops Q L a W
  | [], _, _, _, h => h
  | o :: L, hn, a, W, h => by
    have h1 := noDefer_at hn (o := o) List.mem_cons_self
    have h2 : noDefer L = true := List.all_eq_true.2 fun x hx => (List.all_eq_true.1 hn) x (List.mem_cons_of_mem _ hx)
    unfold wpList at h
    unfold wpListIn
    split at h
    · rename_i hw
      rw [if_pos hw]
      rcases h with h | ⟨_, a', w', h⟩
      · exact op_round (Q := fun _ _ => True) h1 (Oper.wp_mono (fun a w hk => list_round hQ L h2 a w hk) h)
      · exact absurd h (hQ a' w')
    · rename_i hw
      rw [if_neg hw]
      exact ⟨fun _ _ => trivial, list_round hQ L h2 _ _ h⟩
/-- A plain region in a round. -/
theorem region_round {id : Nat} {L : List Oper} {Q : Exit → Act → World → Prop} {a : Act} {W : World} (hQ : ∀ a w, ¬ Q .outgrown a w) (hn : noDefer L = true) (h : wpList P L.toArray Q L a W) : (Code.region id L.toArray false).wpIn (Fence.wide.inRound l) n P Q a W :=
  wpIn_region_lit (list_round hQ L hn a W h)
end
/-- What the rounds leave to the iterator. -/
def Keep2 (bx bn : Nat) (A B : World) : Prop := ∀ k, k = bx ∨ k = bn → B.heap[k]? = A.heap[k]?
theorem Keep2.trans {bx bn : Nat} {A B C : World} (h : Keep2 bx bn A B) (k : Keep2 bx bn B C) : Keep2 bx bn A C := fun i hi => (k i hi).trans (h i hi)
theorem Keep2.refl (bx bn : Nat) (A : World) : Keep2 bx bn A A := fun _ _ => rfl
theorem Keep2.grown {bx bn : Nat} {A B : World} {row : Option Nat} (hg : A.grownBy B row) (h1 : bx < A.heap.size) (h2 : bn < A.heap.size) (hr : ∀ r, row = some r → r ≠ bx ∧ r ≠ bn) : Keep2 bx bn A B := fun k hk => by
  rcases hk with rfl | rfl
  · exact hg.block _ h1 (fun e => (hr _ e.symm).1 rfl)
  · exact hg.block _ h2 (fun e => (hr _ e.symm).2 rfl)
theorem heap_set_ne {W : World} {b k : Nat} {v : Value} (h : k ≠ b) : (W.setCell ⟨b, 0, none⟩ v).heap[k]? = W.heap[k]? := Below.heap_setCell W _ v k h
/-- **The statement 'for x := range it'**, where the iterator writes one variable of its own between the rounds. -/
theorem wp_rangeBox {P : Program} {g : Operand} {ps : Array Tmp} {assign body : Code} {Q : Exit → Act → World → Prop} {a : Act} {w : World} {gf : Nat} {lb : Array Value}
    (hg : a.eval g = .func (.func gf) #[] lb) (eg : ∀ args w, (callFunc gf args).run P w = .ok (.enter gf args) w) (hps : ps.size = 1)
    (N : Nat) (U : Nat → Value → Prop) (J : Nat → World → Prop) (bx bn : Nat) (hbx : bx < w.heap.size) (hbn : bn < w.heap.size)
    (hiter : ∀ (l : Nat) (J' : Nat → World → Prop) (W : World), (∀ k W v, J' k W → J' k (W.setCell ⟨bx, 0, none⟩ v)) → (∀ k W, J' k W → J k W) →
      (∀ k u W1, J' k W1 → k < N → U k u → YieldAt Fence.wide 8 P l #[u] W1 fun e W' => e = .returned (.bool true) ∧ J' (k + 1) W' ∧ Keep2 bx bn W1 W') → J' 0 W → Keep2 bx bn w W →
      CallsIn Fence.wide 9 P gf (#[.func (.yield l) #[] #[]] ++ lb) W fun e W' => (∃ v, e = .returned v) ∧ J' N W')
    (hJ : OwnFrom w.heap.size J) (hJs : ∀ k W v, J k W → J k (W.setCell ⟨bx, 0, none⟩ v)) (h0 : J 0 w) (t₁ : Value → Array Value → Array Value)
    (hassign : ∀ (l : Nat) (u : Value) (W : World) (K : Act → World → Prop), K { tmps := t₁ u a.tmps, defers := [] } W → assign.wpIn (Fence.wide.inRound l) 8 P (Exit.then K (fun _ _ _ => False)) { tmps := (ps.zip #[u]).foldl (fun t (p, v) => t.setIfInBounds p v) a.tmps, defers := [] } W)
    (hbody : ∀ (l k : Nat) (u : Value) (W : World), J k W → k < N → U k u → w.heap.size ≤ W.heap.size →
      body.wpIn (Fence.wide.inRound l) 8 P (fun e _ W' => e = .normal ∧ KeepsFrom w.heap.size W W' ∧ Keep2 bx bn W W' ∧ J (k + 1) W') { tmps := t₁ u a.tmps, defers := [] } W)
    (hdone : ∀ (D : Nat) (W : World), w.heap.size ≤ D → J N W → W.heap[D]? = some (.deferred (some [])) → Q .normal { a with defers := { target := .collected D, args := #[] } :: a.defers } W) :
    (Code.rangeFunc g ps assign body).wp P Q a w := by
  refine (wpIn_wide (n := 10)).1 (wpIn_rangeFunc ?_)
  intro fn hfn
  obtain ⟨rec, hrec⟩ : ∃ rec : LoopState → Option Code → Loop, rec = fun st pe => { state := st, pending := pe, fn, tmps := a.tmps, params := ps, assign, body, defers := w.heap.size } := ⟨_, rfl⟩
  obtain ⟨W1, hW1⟩ : ∃ W1, (w.alloc (.deferred (some []))).alloc (.loop (rec .ready none)) = W1 := ⟨_, rfl⟩
  have hL1 : W1.heap[w.heap.size + 1]? = some (.loop (rec .ready none)) := by
    rw [← hW1]; have := World.alloc_heap_new (w.alloc (.deferred (some []))) (.loop (rec .ready none)); rwa [World.size_alloc] at this
  have hK1 : W1.heap[w.heap.size]? = some (.deferred (some [])) := by
    rw [← hW1]; exact (Below.heap_alloc _ _ _ (by simp)).trans (World.alloc_heap_new w _)
  have hJ1 : J 0 W1 := by rw [← hW1]; exact hJ.alloc _ (hJ.alloc _ h0)
  have hC1 : Keep2 bx bn w W1 := by
    intro k hk
    have hlt : k < w.heap.size := by rcases hk with rfl | rfl <;> assumption
    rw [← hW1]; exact (Below.heap_alloc _ _ _ (by rw [World.size_alloc]; omega)).trans (Below.heap_alloc _ _ _ hlt)
  refine ⟨w.heap.size + 1, [{ target := .collected w.heap.size, args := #[] }], W1, { target := .fn (.func gf) lb, args := #[.func (.yield (w.heap.size + 1)) #[] #[]] }, W1, gf,
    #[.func (.yield (w.heap.size + 1)) #[] #[]] ++ lb, W1, ?_, ?_, fun _ _ => trivial, ?_, fun _ => by decide, ?_⟩
  · rw [← hW1, hrec]; exact run_enterLoop_outer _ _ _ _ _
  · simp only [resolve, hg]
    simp [go_sem]
  · simp [invoke, go_sem, eg]
  · refine (hiter (w.heap.size + 1) (fun k W => J k W ∧ W.heap[w.heap.size + 1]? = some (.loop (rec .ready none)) ∧ W.heap[w.heap.size]? = some (.deferred (some []))) W1
      (fun k W v ⟨h1, h2, h3⟩ => ⟨hJs k W v h1, (heap_set_ne (by omega)).trans h2, (heap_set_ne (by omega)).trans h3⟩) (fun k W h => h.1) ?_ ⟨hJ1, hL1, hK1⟩ hC1).mono ?_
    · rintro k u W ⟨hi, hl, hk⟩ hlt hu
      have hlsz : w.heap.size + 1 < W.heap.size := (Array.getElem?_eq_some_iff.1 hl).1
      have hy := run_yield (P := P) (args := #[u]) hl (by rw [hrec]; exact hps.symm)
      rw [hrec] at hy
      refine ⟨fn, _, assign, body, hy, roundIn_of_wpIn hfn (hassign _ u W _ ⟨_, run_beginRound hl (by rw [hrec]), ?_⟩)⟩
      have hl2 : (W.putObj (w.heap.size + 1) (.loop { rec .ready none with state := .busy })).heap[w.heap.size + 1]? = some (.loop { rec .ready none with state := .busy }) := World.putObj_heap_same hlsz
      have hk2 : (W.putObj (w.heap.size + 1) (.loop { rec .ready none with state := .busy })).heap[w.heap.size]? = some (.deferred (some [])) := (World.putObj_heap_other (by omega)).trans hk
      have hc2 : Keep2 bx bn W (W.putObj (w.heap.size + 1) (.loop { rec .ready none with state := .busy })) := fun i hi => World.putObj_heap_other (by rcases hi with rfl | rfl <;> omega)
      refine wpIn_mono (hbody _ k u _ (hJ.putObj _ hi (by omega) hl rfl) hlt hu (by rw [World.putObj_size]; omega)) ?_
      rintro e a3 W3 ⟨rfl, hk3, hc3, hi3⟩
      have hl3 := hk3.same _ _ (by omega) hl2 rfl
      have hr := run_endRound (P := P) none hl3
      rw [hrec] at hr hl3
      have hl3' : W3.heap[w.heap.size + 1]? = some (.loop { rec .ready none with state := .busy }) := by rw [hrec]; exact hl3
      refine ⟨_, _, hr, rfl, ⟨hJ.putObj _ hi3 (by omega) hl3' rfl, ?_, ?_⟩, (hc2.trans hc3).trans fun i hi => World.putObj_heap_other (by rcases hi with rfl | rfl <;> omega)⟩
      · rw [hrec]; exact World.putObj_heap_same (Array.getElem?_eq_some_iff.1 hl3).1
      · exact (World.putObj_heap_other (by omega)).trans (hk3.same _ _ (Nat.le_refl _) hk2 rfl)
    · rintro e W2 ⟨⟨v, rfl⟩, hi, hl, hk⟩
      exact ⟨none, _, by have := run_endLoop (P := P) hl (by rw [hrec]; simp); rw [hrec] at this; exact this, hdone _ _ (Nat.le_refl _) (hJ.putObj _ hi (by omega) hl rfl) ((World.putObj_heap_other (by omega)).trans hk)⟩
/-- A body of three plain regions in a round. -/
theorem body3_round {P : Program} {l n id i1 i2 i3 : Nat} {L1 L2 L3 : List Oper} {Q : Exit → Act → World → Prop} {a : Act} {W : World} (hQ : ∀ a w, ¬ Q .outgrown a w) (h1 : noDefer L1 = true) (h2 : noDefer L2 = true) (h3 : noDefer L3 = true)
    (h : wpList P L1.toArray (fun e a w => e = .normal ∧ wpList P L2.toArray (fun e a w => e = .normal ∧ wpList P L3.toArray (fun e a w => e = .normal ∧ Q .normal a w) L3 a w) L2 a w) L1 a W) :
    (Code.block id (.seq (.region i1 L1.toArray false) (.seq (.region i2 L2.toArray false) (.region i3 L3.toArray false)))).wpIn (Fence.wide.inRound l) n P Q a W := by
  refine wpIn_block (wpIn_seq ?_)
  refine wpIn_mono (region_round (l := l) (n := n) (id := i1) (fun _ _ e => by cases e.1) h1 h) ?_
  rintro e a1 w1 ⟨rfl, g⟩
  refine wpIn_seq ?_
  refine wpIn_mono (region_round (l := l) (n := n) (id := i2) (fun _ _ e => by cases e.1) h2 g) ?_
  rintro e a2 w2 ⟨rfl, g⟩
  refine wpIn_mono (region_round (l := l) (n := n) (id := i3) (fun _ _ e => by cases e.1) h3 g) ?_
  rintro e a3 w3 ⟨rfl, g⟩
  exact g
end Go.Proofs.Ytijeabhfddaoaaa
