/- Rows of messages of one's own; slices of messages as an argument. -/
import Derived.Test.YtacbenjfiabegaaUf
import Derived.Test.YtacbenjfiabegaaRow3
namespace Go.Proofs.Ytacbenjfiabegaa
set_option linter.unusedVariables false
set_option linter.unusedSimpArgs false
open Go.ChangeShapes Go.WideShapes Go.ChangeAt Go.RowKit Go.Proofs.YtacbenjfiabegaaW.PrintWords Go.Proofs.Sh

/-- A row of messages, of one's own. -/
abbrev Om (w0 w : World) (v : Value) (l : List Ms) : Prop := Own km 56 w0 w v l
def flatM : List Ms → List Value
  | [] => []
  | x :: l => (mC x).toList ++ flatM l
theorem mC_len (x : Ms) : (mC x).toList.length = 13 := rfl
theorem flatM_len : ∀ l, (flatM l).length = l.length * 13
  | [] => rfl
  | x :: l => by
    simp only [flatM, List.length_append, List.length_cons, flatM_len l, mC_len]
    omega
theorem flatM_at : ∀ (l : List Ms) (j : Nat), j < l.length → ((flatM l).drop (j * 13)).take 13 = (mC (l.getD j zM)).toList
  | x :: l, 0, _ => by
    simp only [flatM, Nat.zero_mul, List.drop_zero]
    rw [List.take_append_of_le_length (by rw [mC_len]; exact Nat.le_refl _), List.take_of_length_le (by rw [mC_len]; exact Nat.le_refl _)]
    rfl
  | x :: l, j + 1, h => by
    have := flatM_at l j (by simpa using h)
    rw [show (j + 1) * 13 = (mC x).toList.length + j * 13 by rw [mC_len]; omega]
    simp only [flatM, List.drop_append]
    rw [List.drop_eq_nil_of_le (by omega), List.nil_append, Nat.add_sub_cancel_left, this]
    rfl
theorem flatM_set : ∀ (l : List Ms) (j f : Nat) (v : Value) (x' : Ms), f < 13 → (j < l.length → (mC x').toList = (mC (l.getD j zM)).toList.set f v) → (flatM l).set (j * 13 + f) v = flatM (l.set j x')
  | [], j, f, v, x', _, _ => by simp [flatM]
  | q :: l, 0, f, v, x', hf, h => by
    have := h (by simp)
    simp only [flatM, List.set_cons_zero, Nat.zero_mul, Nat.zero_add]
    rw [List.set_append_left _ _ (by rw [mC_len]; exact hf), this]
    rfl
  | q :: l, j + 1, f, v, x', hf, h => by
    simp only [flatM, List.set_cons_succ]
    rw [List.set_append_right _ _ (by rw [mC_len]; omega), mC_len, show (j + 1) * 13 + f - 13 = j * 13 + f by omega,
      flatM_set l j f v x' hf (fun hj => by rw [h (by simpa using hj)]; rfl)]
theorem reps_flatM (l : List Ms) (h : ∀ x ∈ l, OkM x) : Reps (fun (x : Ms) c => c = (mC x).toList ∧ OkM x) 13 l (flatM l) := by
  refine ⟨flatM_len l, fun j p hj => ?_⟩
  have hlt : j < l.length := (List.getElem?_eq_some_iff.1 hj).1
  have e : l.getD j zM = p := by rw [List.getD_eq_getElem?_getD, hj]; rfl
  rw [flatM_at l j hlt, e]
  exact ⟨rfl, h p (List.mem_of_getElem? hj)⟩
theorem flatM_of_reps : ∀ (l : List Ms) (cs : List Value), Reps (fun (x : Ms) c => c = (mC x).toList ∧ OkM x) 13 l cs → cs = flatM l ∧ ∀ x ∈ l, OkM x
  | [], cs, h => ⟨List.eq_nil_of_length_eq_zero (by rw [h.1]; rfl), fun x hx => by cases hx⟩
  | p :: l, cs, h => by
    have h0 := h.2 0 p rfl
    rw [Nat.zero_mul, List.drop_zero] at h0
    obtain ⟨h1, h2⟩ := flatM_of_reps l (cs.drop 13) ⟨by rw [List.length_drop, h.1, List.length_cons]; omega, fun j q hq => by
      have := h.2 (j + 1) q hq
      rw [List.drop_drop]
      rwa [show (j + 1) * 13 = 13 + j * 13 by omega] at this⟩
    refine ⟨by rw [← List.take_append_drop 13 cs, h0.1, h1]; rfl, fun x hx => ?_⟩
    rcases List.mem_cons.1 hx with rfl | hx
    · exact h0.2
    · exact h2 x hx
theorem om_own {w0 W : World} {v : Value} {xs : List Ms} (h : Om w0 W v xs) : W.ownsRow w0.heap.size 56 13 v xs.length (flatM xs) ∧ ∀ x ∈ xs, OkM x := by
  obtain ⟨_, inner, ho, hr⟩ := h
  obtain ⟨e, h2⟩ := flatM_of_reps xs inner hr
  subst e
  exact ⟨ho, h2⟩
theorem own_om {w0 W : World} {v : Value} {xs : List Ms} (h : W.ownsRow w0.heap.size 56 13 v xs.length (flatM xs)) (h2 : ∀ x ∈ xs, OkM x) : Om w0 W v xs := ⟨fun _ _ => trivial, flatM xs, h, reps_flatM xs h2⟩
theorem Om.form {w0 w : World} {v : Value} {l : List Ms} (h : Om w0 w v l) (hl : 0 < l.length) : ∃ g cap, v = .slice (some ⟨g, 0, none⟩) l.length cap ∧ w0.heap.size ≤ g ∧ g < w.heap.size := by
  obtain ⟨g, cap, hv, hb, hlt⟩ := (om_own h).1.form hl
  exact ⟨g, cap, hv, hb, hlt⟩
/-- The cells of a message of the row. -/
theorem Om.at {w0 w : World} {g n cap : Nat} {l : List Ms} (h : Om w0 w (.slice (some ⟨g, 0, none⟩) n cap) l) (j : Nat) (hj : j < l.length) :
    OkM (l.getD j zM) ∧ (∀ f u, (mC (l.getD j zM)).toList[f]? = some u → w.cell? ⟨g, j * 13 + f, none⟩ = some u) ∧ ∀ k, w.frozen? ⟨g, k, none⟩ = false := by
  obtain ⟨ad, e, h1, h2⟩ := msg_at (Own.rk h) j hj
  injection e with e
  subst e
  refine ⟨h1, fun f u hu => ?_, fun k => ?_⟩
  · have := h2 f u hu
    rwa [Go.Deep.add_add, Go.Proofs.YtacbenjfiabegaaW.PrintWords.add_plain] at this
  · obtain ⟨cells, hc⟩ := own_typed (om_own h).1 g (by simp [Value.ownBlock])
    exact blk_frozen hc _
/-- A field of a message of the row is stored. -/
theorem Om.set {w0 w : World} {g n cap : Nat} {l : List Ms} (h : Om w0 w (.slice (some ⟨g, 0, none⟩) n cap) l) (j f : Nat) (v : Value) (x' : Ms) (hf : f < 13) (hj : j < l.length) (hx : (mC x').toList = (mC (l.getD j zM)).toList.set f v) (hok : OkM x') :
    Om w0 (w.setCell ⟨g, j * 13 + f, none⟩ v) (.slice (some ⟨g, 0, none⟩) n cap) (l.set j x') ∧ w.grownBy (w.setCell ⟨g, j * 13 + f, none⟩ v) (some g) := by
  have hn : n = l.length := by obtain ⟨A, c, e, _, _⟩ := Own.rk h; injection e
  subst hn
  obtain ⟨h1, h2⟩ := om_own h
  have hs := h1.stored (j * 13 + f) v
  refine ⟨own_om ?_ (fun x hx' => ?_), hs.2⟩
  · have := hs.1
    rw [flatM_set l j f v x' hf (fun _ => hx)] at this
    rw [List.length_set]
    exact this
  · rcases List.mem_or_eq_of_mem_set hx' with hx' | rfl
    · exact h2 x hx'
    · exact hok
theorem lit_om {w0 W : World} (hB : w0.heap.size ≤ W.heap.size) : Om w0 (W.alloc (.cells #[] 56)) (.slice (some ⟨W.heap.size, 0, none⟩) 0 0) [] :=
  own_om (World.ownsRow_lit (base := w0.heap.size) (e := 56) (size := 13) W #[] 0 hB (by decide) rfl) (fun x hx => by cases hx)
theorem infoM : (Try.prog.info? 56).map (fun i => (i.zero, i.size, i.bytes)) = some (some (.agg zeroC), 13, 160) := by kernel_rfl
/-- append(v, ys...) of rows of messages. -/
theorem app_ms {ops : Array Oper} {rest : List Oper} {o : Oper} {a : Act} {Q : Exit → Act → World → Prop} {w0 W : World} (hgd : o.guard = none) (s x : Operand)
    (ho : o.op = .call { callee := .builtin .append, args := #[s, x], argTypes := #[49, 49] })
    (v : Value) (xs ys : List Ms) (u : Value) (hs : a.eval s = v) (hx : a.eval x = u)
    (HO : Om w0 W v xs) (HR : Rms W u ys) (HB : Below w0.heap.size w0 W) (hl : xs.length + ys.length ≤ 1000000)
    (h : ∀ v1 w1, Om w0 w1 v1 (xs ++ ys) → Below w0.heap.size w0 w1 → wpList Try.prog ops Q rest (a.put o.dst v1) w1) :
    wpList Try.prog ops Q (o :: rest) a W := by
  obtain ⟨A, c, rfl, hc, hr⟩ := HR
  exact Kd.R_append_rows km (Rr := km.K W) (w0 := w0) w0.heap.size hgd s x 49 56 (.agg zeroC) 160 ho Try.underlying49 infoM rfl (by decide) (by decide) v xs ys A ys.length c T_ (fun _ => False) hs hx HO hr (fun _ _ hk => hk) (fun _ hk => hk.elim) (fun _ _ => trivial) HB HB.size (by omega)
    (fun v1 w1 ho' hb' hg' _ => h v1 w1 ho' hb')
theorem Rd.like {w : World} {x y : Ms} (h : Rd w x) (h1 : y.who = x.who) (h2 : y.nms = x.nms) (h3 : y.dat = x.dat) (h4 : y.q = x.q) : Rd w y := by
  obtain ⟨a, b, c⟩ := h
  exact ⟨by rw [h1, h4]; exact a, by rw [h2]; exact b, by rw [h3]; exact c⟩
theorem OkM.like {x y : Ms} (h : OkM x) (h1 : y.who = x.who) (h2 : y.nms = x.nms) (h3 : y.dat = x.dat) : OkM y := by
  obtain ⟨a, b, c⟩ := h
  exact ⟨by rw [h1]; exact a, by rw [h2]; exact b, by rw [h3]; exact c⟩
/-! ### as an argument -/
section
variable {H : Type} {enc : TypeId × Value → H} {w : World} {base : Nat} {spare : Nat → Bool} {held : Bool}
/-- Messages as they are read, with what they lead to. -/
def kMr : Kd Ms where
  sz := 13
  E := []
  K := fun w x cs => cs = (mC x).toList ∧ Rd w x
  M := fun _ _ _ _ _ => False
  K_len := fun h => by rw [h.1]; rfl
  K_one := fun h u hu => by
    rw [h.1] at hu
    have := h.2.ok.all
    rw [Array.all_eq_true_iff_forall_mem] at this
    exact this u (by simpa using hu)
  K_below := fun hb h => ⟨h.1, h.2.below hb⟩
  K_of_M := fun h => h.elim
  M_mono := fun _ h => h
  M_bound := fun h => h.elim
  M_move := fun _ h => h
  M_lower := fun _ h => h
theorem ml_of {w : World} {v : Value} {l : List Ms} (h : Rk kMr w v l) : Ml w v l := by
  obtain ⟨A, c, e, hc, hr⟩ := h
  have hk : ∀ j p, l[j]? = some p → ∃ cs, cs = (mC p).toList ∧ Rd w p := fun j p hj => by
    have hp : 0 < l.length := by have := (List.getElem?_eq_some_iff.1 hj).1; omega
    obtain ⟨ad, _, h2⟩ := hr.2.2 hp
    obtain ⟨cs, _, h3, _⟩ := h2 j p hj
    exact ⟨cs, h3⟩
  refine ⟨⟨A, c, e, hc, ⟨hr.1, hr.2.1, fun hp => ?_⟩⟩, fun x hx => ?_⟩
  · obtain ⟨ad, e2, h2⟩ := hr.2.2 hp
    refine ⟨ad, e2, fun j p hj => ?_⟩
    obtain ⟨cs, h3, h4, h5⟩ := h2 j p hj
    exact ⟨cs, h3, ⟨h4.1, h4.2.ok⟩, h5⟩
  · obtain ⟨i, hi⟩ := List.getElem?_of_mem hx
    obtain ⟨_, _, h3⟩ := hk i x hi
    exact h3
theorem cells_of {w : World} {base : Nat} {a : Addr} {n : Nat} {cs : List Value} (h : w.cells? base a n = some cs) : cs.length = n ∧ ∀ j u, cs[j]? = some u → w.cell? (a.add j) = some u := by
  obtain ⟨h1, h2, h3⟩ := World.cells?_some h
  refine ⟨h2, fun j u hj => ?_⟩
  have hlt : j < n := by rw [← h2]; exact (List.getElem?_eq_some_iff.1 hj).1
  rw [h3 j hlt, hj]
theorem opens_wide {P : Program} {α : Type} {t e : TypeId} (ht : P.underlying t = some (.slice e)) {d : Kd α} (hc : P.cellsOf e = d.sz) {Q : α → Prop}
    (he : ∀ (n : Nat) (c : List Value) (x : DataW H × List MemPlace), c.length = d.sz → DataW.trod enc P w base spare held n e c = some x → ∃ y, d.K w y c ∧ Q y)
    {fuel : Nat} {cs : List Value} {x : DataW H × List MemPlace} (h : DataW.trod enc P w base spare held fuel t cs = some x) : ∃ ys, (Kd.slice e d).K w ys cs ∧ ∀ y ∈ ys, Q y := by
  rcases Go.Deep.open_slice ht h with ⟨rfl, _⟩ | ⟨a, len, cap, m, n, D, Pl, rfl, _, hl, hm, hmm, _, hx⟩
  · exact ⟨[], ⟨none, 0, rfl, Nat.le_refl _, Kd.C_nil _ _⟩, fun y hy => by cases hy⟩
  · have hml : len ≤ m := by rw [hmm]; split <;> omega
    rw [hc] at hx
    have hE : ∀ i, i < len → ∃ y, (∃ c, c.length = d.sz ∧ d.K w y c ∧ ∀ j u, c[j]? = some u → w.cell? ((a.add (i * d.sz)).add j) = some u) ∧ Q y := fun i hi => by
      obtain ⟨c, h1, h2⟩ := hx i (by omega)
      obtain ⟨h3, h4⟩ := cells_of h1
      obtain ⟨y, hy, hq⟩ := he n c _ h3 h2
      exact ⟨y, ⟨c, h3, hy, h4⟩, hq⟩
    obtain ⟨ys, hys⟩ := collect (R := fun i y => (∃ c, c.length = d.sz ∧ d.K w y c ∧ ∀ j u, c[j]? = some u → w.cell? ((a.add (i * d.sz)).add j) = some u) ∧ Q y) len hE
    refine ⟨ys, ⟨some a, cap, by rw [hys.1], by omega, ⟨rfl, by rw [hys.1]; unfold maxLen at hm; omega, fun hp => ⟨a, rfl, fun j p hj => ?_⟩⟩⟩, fun y hy => ?_⟩
    · obtain ⟨c, h1, h2, h3⟩ := (hys.2 j p hj).1
      exact ⟨c, h1, h2, fun i u hu => by rw [← Go.Deep.add_add]; exact h3 i u hu⟩
    · obtain ⟨i, hi⟩ := List.getElem?_of_mem hy
      exact (hys.2 i y hi).2
set_option maxHeartbeats 1600000 in
theorem opens_msg {fuel : Nat} {cs : List Value} {x : DataW H × List MemPlace} (hl : cs.length = 13) (h : DataW.trod enc Try.prog w base spare held fuel 56 cs = some x) : ∃ y : Ms, kMr.K w y cs ∧ True := by
  match cs, hl with
  | [c0, c1, c2, c3, c4, c5, c6, c7, c8, c9, c10, c11, c12], _ =>
    obtain ⟨m0, g0, f0⟩ := cells_struct Try.underlying56 h 0 _ rfl (by kernel_rfl) c0 _ rfl
    obtain ⟨m1, g1, f1⟩ := cells_struct Try.underlying56 h 1 _ rfl (by kernel_rfl) c1 _ rfl
    obtain ⟨m2, g2, f2⟩ := cells_struct Try.underlying56 h 2 _ rfl (by kernel_rfl) c2 _ rfl
    obtain ⟨m3, g3, f3⟩ := cells_struct Try.underlying56 h 3 _ rfl (by kernel_rfl) c3 _ rfl
    obtain ⟨m4, g4, f4⟩ := cells_struct Try.underlying56 h 4 _ rfl (by kernel_rfl) c4 _ rfl
    obtain ⟨m5, g5, f5⟩ := cells_struct Try.underlying56 h 5 _ rfl (by kernel_rfl) c5 _ rfl
    obtain ⟨m6, g6, f6⟩ := cells_struct Try.underlying56 h 6 _ rfl (by kernel_rfl) c6 _ rfl
    obtain ⟨m7, g7, f7⟩ := cells_struct Try.underlying56 h 7 _ rfl (by kernel_rfl) c7 _ rfl
    obtain ⟨m8, g8, f8⟩ := cells_struct Try.underlying56 h 8 _ rfl (by kernel_rfl) c8 _ rfl
    obtain ⟨m9, g9, f9⟩ := cells_struct Try.underlying56 h 9 _ rfl (by kernel_rfl) c9 _ rfl
    obtain ⟨m10, g10, f10⟩ := cells_struct Try.underlying56 h 10 _ rfl (by kernel_rfl) c10 _ rfl
    obtain ⟨m11, g11, f11⟩ := cells_struct Try.underlying56 h 11 _ rfl (by kernel_rfl) c11 _ rfl
    obtain ⟨m12, g12, f12⟩ := cells_struct Try.underlying56 h 12 _ rfl (by kernel_rfl) c12 _ rfl
    obtain ⟨y0, K0, _⟩ := opens_int Try.underlying3 f0
    obtain ⟨y1, K1, _⟩ := opens_int Try.underlying3 f1
    obtain ⟨y2, K2, _⟩ := opens_int Try.underlying3 f2
    obtain ⟨y3, K3, _⟩ := opens_int Try.underlying3 f3
    obtain ⟨y4, K4, _⟩ := opens_string Try.underlying9 f4
    obtain ⟨y5, K5, _⟩ := opens_int Try.underlying3 f5
    obtain ⟨y6, K6, _⟩ := opens_int Try.underlying3 f6
    obtain ⟨y7, K7, _⟩ := opens_int Try.underlying3 f7
    obtain ⟨y8, K8, _⟩ := opens_int Try.underlying3 f8
    obtain ⟨y9, K9, _⟩ := opens_int Try.underlying3 f9
    obtain rfl := one_int K0
    obtain rfl := one_int K1
    obtain rfl := one_int K2
    obtain rfl := one_int K3
    obtain rfl := one_cell K4
    obtain rfl := one_int K5
    obtain rfl := one_int K6
    obtain rfl := one_int K7
    obtain rfl := one_int K8
    obtain rfl := one_int K9
    obtain ⟨y10, K10, _⟩ := opens_slice Try.underlying53 (by kernel_rfl) (d := (Kd.int .i64)) rfl (fun _ _ _ h_ => opens_int Try.underlying3 h_) f10
    obtain ⟨y11, K11, _⟩ := opens_slice Try.underlying54 (by kernel_rfl) (d := Kd.string) rfl (fun _ _ _ h_ => by
      obtain ⟨s_, e_, q_⟩ := opens_string Try.underlying9 h_
      exact ⟨s_, e_, q_⟩) f11
    obtain ⟨y12, K12, _⟩ := opens_slice Try.underlying22 (by kernel_rfl) (d := kb) rfl (fun _ _ _ h_ => opens_byte Try.underlying5 h_) f12
    have R10 := one_slice K10
    have R11 := one_slice K11
    have R12 := one_slice K12
    exact ⟨⟨y0, y1, y2, y3, y4, y5, y6, y7, y8, y9, c10, c11, c12, y10⟩, ⟨rfl, ⟨R10, ⟨y11, R11⟩, ⟨y12, R12⟩⟩⟩, trivial⟩
end
end Go.Proofs.Ytacbenjfiabegaa
