/- The walks of slices.DeleteFunc (of numbers) and of choose.those. -/
import Derived.Test.YtacbenjfiabegaaHr
import Derived.Test.YtacbenjfiabegaaK7
import Derived.Lib.SliceRun
namespace Go.Proofs.Ytacbenjfiabegaa
set_option linter.unusedVariables false
set_option linter.unusedSimpArgs false
open Go.RowKit Go.Proofs.YtacbenjfiabegaaW.PrintWords Go.Proofs.Sh

theorem zero_int (w : World) : (zeroValue 3).run Try.prog w = .ok (.int .i64 0) w := by
  have h := infoI
  cases hi : Try.prog.info? 3 with
  | none => rw [hi] at h; cases h
  | some i =>
    rw [hi] at h
    simp only [Option.map_some, Option.some.injEq, Prod.mk.injEq] at h
    unfold zeroValue
    simp [typeInfo, Sem.run_bind, hi, h.1]
/-- What is left when the rest is cleared. -/
theorem oi_clear {w0 w : World} {g n c : Nat} {l : List Int} (h : Oi w0 w (.slice (some ⟨g, 0, none⟩) n c) l) (i : Nat) (hi : i < l.length) (vs : List Value) (hv : vs.length = n - i) :
    Oi w0 (w.setCells g i vs) (.slice (some ⟨g, 0, none⟩) i c) (l.take i) ∧ w.grownBy (w.setCells g i vs) (some g) := by
  have ho := oi_own h
  obtain ⟨h1, h2⟩ := ho
  have s := setCells_same g vs i w
  refine ⟨own_oi ?_, ⟨s.1, s.2.1, s.2.2.1, by rw [s.2.2.2]; exact Nat.le_refl _, fun k hk hne => setCells_far vs i k (fun e => hne (by rw [e]))⟩⟩
  rw [List.length_take, Nat.min_eq_left (Nat.le_of_lt hi)]
  refine ⟨by simp; omega, ?_⟩
  rcases h2 with ⟨e, _⟩ | ⟨g', cap, cur, e, hb, hc, hn, hm, hs, ht⟩
  · cases e
  · injection e with e1 e2 e3
    injection e1 with e1
    injection e1 with e1
    subst e1 e3
    rw [Nat.mul_one] at hs ht
    obtain ⟨cur', q1, q2, q3⟩ := setCells_row vs i w cur hc (by omega)
    refine .inr ⟨g, c, cur', rfl, hb, q1, by omega, hm, by rw [q2, hs, Nat.mul_one], ?_⟩
    rw [Nat.mul_one, q3, List.append_assoc, List.take_append_of_le_length (by simp; omega), List.take_take, Nat.min_self, List.map_take, ← ht, List.take_take, Nat.min_eq_left (by omega)]
/-- How far the numbers that stay have come. -/
structure Kept (q : Int → Bool) (l : List Int) (i j : Nat) (m : List Int) : Prop where
  lt : i < j
  le : j ≤ l.length
  len : m.length = l.length
  low : m.take i = (l.take j).filter (fun y => !q y)
  high : ∀ t, j ≤ t → m.getD t 0 = l.getD t 0
theorem take_set_succ (m : List Int) (i : Nat) (x : Int) (h : i < m.length) : (m.set i x).take (i + 1) = m.take i ++ [x] := by
  rw [List.take_succ_eq_append_getElem (by simpa using h), List.take_set_of_le (Nat.le_refl _), List.getElem_set_self]
theorem kept_keep {q : Int → Bool} {l m : List Int} {i j : Nat} (h : Kept q l i j m) (hj : j < l.length) (hq : q (l.getD j 0) = false) : Kept q l (i + 1) (j + 1) (m.set i (l.getD j 0)) := by
  refine ⟨by have := h.lt; omega, by omega, by simpa using h.len, ?_, fun t ht => ?_⟩
  · rw [take_set_succ m i _ (by have := h.lt; have := h.len; omega), h.low, take_snoc' l j 0 hj, List.filter_append, List.filter_cons_of_pos (by rw [hq]; rfl)]
    rfl
  · have := h.lt
    have h2 := h.high t (by omega)
    simp only [List.getD_eq_getElem?_getD] at h2 ⊢
    rw [List.getElem?_set_ne (by omega)]
    exact h2
theorem kept_drop {q : Int → Bool} {l m : List Int} {i j : Nat} (h : Kept q l i j m) (hj : j < l.length) (hq : q (l.getD j 0) = true) : Kept q l i (j + 1) m := by
  refine ⟨by have := h.lt; omega, by omega, h.len, ?_, fun t ht => h.high t (by omega)⟩
  rw [h.low, take_snoc' l j 0 hj, List.filter_append, List.filter_cons_of_neg (by rw [hq]; simp)]
  simp
theorem kept_start {q : Int → Bool} {l : List Int} {k : Nat} (hk : k < l.length) (h1 : (l.take k).any q = false) (h2 : q (l.getD k 0) = true) : Kept q l k (k + 1) l := by
  refine ⟨by omega, by omega, rfl, ?_, fun _ _ => rfl⟩
  rw [take_snoc' l k 0 hk, List.filter_append, List.filter_cons_of_neg (by rw [h2]; simp)]
  rw [List.filter_eq_self.2 (fun a ha => by have := List.any_eq_false.1 h1 a ha; simpa using this)]
  simp
set_option maxRecDepth 100000 in
set_option maxHeartbeats 1600000 in
theorem idxThose_c (c0 : Value) (q : Int → Bool) (v : Value) (l : List Int) (w0 w : World) (hB0 : Below w0.heap.size w0 w) (hv : Oi w0 w v l) (hstep : ∀ i wr, Below w0.heap.size w0 wr → Calls Try.prog 96 #[.int .i64 i, c0] wr fun e w' => e = .returned (.bool (q i)) ∧ Below wr.heap.size wr w') :
   Calls Try.prog 105 #[v, .func (.func 96) #[] #[c0]] w fun e w' => (∃ z : Int, e = .returned (.int .i64 z) ∧ (z = -1 ∧ l.any q = false ∨ ∃ k : Nat, z = k ∧ k < l.length ∧ (l.take k).any q = false ∧ q (l.getD k 0) = true)) ∧ Below w.heap.size w w' := by
  obtain ⟨A, c, rfl, hc, hr⟩ := Own.rk hv
  have hl := ri_len hr
  have hv : Ri w (.slice A l.length c) l := ⟨A, c, rfl, hc, hr⟩
  replace hstep := Lib.hid hstep
  go_enter Try.func105, Try.ntmps105
  go_wp2
  go_loopw [5, 8] (fun _ i wr => ∃ k : Nat, k ≤ l.length ∧ i = .int .i64 k ∧ Hid ((l.take k).any q = false) ∧ Below w.heap.size w wr) (fun _ i _ => l.length - (intOf i).toNat)
  case atStart => exact ⟨0, by omega, rfl, Lib.hid (by simp), Below.refl _ _⟩
  case round =>
    obtain ⟨k, hk, rfl, hn, hB⟩ := hrel
    by_cases hlt : k < l.length
    · have hr := rk_C (hv.below hB)
      obtain ⟨ad, rfl, d0⟩ := ki_at hr k hlt
      have HS := Lib.hid (any_take_succ l q 0 k hlt)
      have HE := Lib.hid (fun e : q (l.getD k 0) = true => (show ∃ k1 : Nat, ((k : Nat) : Int) = k1 ∧ k1 < l.length ∧ (l.take k1).any q = false ∧ q (l.getD k1 0) = true from ⟨k, rfl, hlt, hn.out, e⟩))
      generalize hx : l.getD k 0 = r at d0 HS HE
      clear hx
      go_wp2_with fail
      refine (hstep.out r _ (bt_ hB0 hB)).mono ?_
      rintro e w5 ⟨rfl, h5⟩
      have hB := bt_ hB h5
      cases hq : q r with
      | true =>
        have h1 := Lib.hid (HE.out hq)
        clear hq HE HS
        go_wp2
        go_ret
        exact ⟨⟨_, rfl, .inr h1.out⟩, hB⟩
      | false =>
        have hn2 : Hid ((l.take (k + 1)).any q = false) := Lib.hid (by rw [HS.out, hn.out, hq]; rfl)
        clear hq HE HS
        go_wp2
        exact ⟨⟨k + 1, by omega, by go_num, hn2, hB⟩, by simp [intOf]; try omega⟩
    · obtain rfl : k = l.length := by omega
      have h1 := hn.out
      rw [List.take_length] at h1
      replace h1 := Lib.hid h1
      go_wp2
      go_ret
      exact ⟨⟨-1, rfl, .inl ⟨rfl, h1.out⟩⟩, hB⟩
set_option maxRecDepth 100000 in
set_option maxHeartbeats 1600000 in
theorem delThose_c (c0 : Value) (q : Int → Bool) (v : Value) (l : List Int) (w0 w : World) (hB0 : Below w0.heap.size w0 w) (hv : Oi w0 w v l) (hstep : ∀ i wr, Below w0.heap.size w0 wr → Calls Try.prog 96 #[.int .i64 i, c0] wr fun e w' => e = .returned (.bool (q i)) ∧ Below wr.heap.size wr w') :
   Calls Try.prog 95 #[v, .func (.func 96) #[] #[c0]] w fun e w' => ∃ v', e = .returned v' ∧ Oi w0 w' v' (l.filter (fun y => !q y)) ∧ Below w0.heap.size w0 w' := by
  have hidx := Lib.hid (idxThose_c c0 q v l w0 w hB0 hv hstep)
  obtain ⟨A, c, rfl⟩ := rk_form (Own.rk hv)
  have hl9 : l.length ≤ 9223372036854775807 := ri_len (rk_C (Own.rk hv))
  replace hstep := Lib.hid hstep
  go_enter Try.func95, Try.ntmps95
  go_wp2_with fail
  refine hidx.out.mono ?_
  rintro e w1 ⟨⟨z, rfl, hz⟩, hB1⟩
  have hB := bt_ hB0 hB1
  have hO := Own.below hv hB1
  clear hidx hv hB0 hB1
  rcases hz with ⟨rfl, hz⟩ | ⟨k, rfl, hk, h1, h2⟩
  · have hf : Hid (l.filter (fun y => !q y) = l) := Lib.hid (List.filter_eq_self.2 (fun a ha => by have := List.any_eq_false.1 hz a ha; simpa using this))
    clear hz
    go_wp2
    go_ret
    rw [hf.out]
    exact ⟨_, rfl, hO, hB⟩
  · have hI := Lib.hid (kept_start hk h1 h2)
    have t1 : ((k : Int) == -1) = false := beq_eq_false_iff_ne.2 (by omega)
    have t2 : IntKind.i64.wrap ((k : Int) + 1) = ((k + 1 : Nat) : Int) := by rw [wrapI _ (by omega) (by omega)]; omega
    obtain ⟨g, c2, e, hg1, hg2⟩ := Oi.form hO (by omega)
    injection e with e1 e2 e3
    subst e1 e3
    clear h1 h2
    go_wp2_with fail
    go_loopw [5, 6] (fun a b wr => ∃ (i j : Nat) (m : List Int), a = .int .i64 i ∧ b = .int .i64 j ∧ Hid (Kept q l i j m) ∧ Oi w0 wr (.slice (some ⟨g, 0, none⟩) l.length c) m ∧ Below w0.heap.size w0 wr) (fun _ b _ => l.length - (intOf b).toNat)
    case atStart => exact ⟨k, k + 1, l, rfl, rfl, hI, hO, hB⟩
    case round =>
      clear hO hB hI hk
      obtain ⟨i, j, m, rfl, rfl, hI, hO, hB⟩ := hrel
      have hij := hI.out.lt
      have hjl := hI.out.le
      have hml := hI.out.len
      by_cases hlt : j < l.length
      · obtain ⟨z1, z2⟩ := hO.at j (by omega)
        rw [hI.out.high j (Nat.le_refl _)] at z1
        have hkeep := Lib.hid (fun e => kept_keep hI.out hlt e)
        have hdrop := Lib.hid (fun e => kept_drop hI.out hlt e)
        generalize l.getD j 0 = x at *
        clear hI
        go_wp2_with fail
        refine (hstep.out x _ hB).mono ?_
        rintro e w5 ⟨rfl, h5⟩
        have hO5 := Own.below hO h5
        have hB5 := bt_ hB h5
        clear hO hB z1 z2 h5
        cases hq : q x with
        | true =>
          have hI := Lib.hid (hdrop.out hq)
          clear hq hdrop hkeep
          go_wp2
          exact ⟨⟨i, j + 1, m, rfl, by go_num, hI, hO5, hB5⟩, by simp [intOf]; omega⟩
        | false =>
          have hI := Lib.hid (hkeep.out hq)
          obtain ⟨y1, y2⟩ := Oi.at hO5 i (by omega)
          clear hq hdrop hkeep
          go_wp2
          exact ⟨⟨i + 1, j + 1, m.set i x, by go_num, by go_num, hI, (Oi.set hO5 i x).1, below_set hB5 hg1⟩, by simp [intOf]; omega⟩
      · obtain rfl : j = l.length := by omega
        have hcap : l.length ≤ c := by
          obtain ⟨A', c', e, h, _⟩ := Own.rk hO
          injection e with e1 e2 e3
          omega
        have hf : Hid (l.filter (fun y => !q y) = m.take i) := Lib.hid (by have := hI.out.low; rw [List.take_length] at this; exact this.symm)
        have hcl : ∀ ty, (Builtin.clear_ #[53] ty #[.slice (some ⟨g, i, none⟩) (l.length - i) (c - i)]).run Try.prog wr = .ok (.tuple #[]) (wr.setCells g i (List.replicate (l.length - i) (.int .i64 0))) :=
          fun ty => Lib.run_clear_slice wr _ _ ty _ Try.underlying53 zero_int rfl rfl g i _ _ (by omega) (fun t ht => by rw [(hO.at (i + t) (by omega)).1]; rfl) (fun t ht => (hO.at (i + t) (by omega)).2)
        obtain ⟨hO2, hg3⟩ := oi_clear hO i (by omega) (List.replicate (l.length - i) (.int .i64 0)) (by simp)
        have hB2 : Below w0.heap.size w0 (wr.setCells g i (List.replicate (l.length - i) (.int .i64 0))) := pw_below_grown hB (some g) hB.size hg3 (fun k hk => by injection hk with hk; omega)
        clear hI hO hB
        go_wp2
        go_ret
        rw [hf.out]
        exact ⟨_, rfl, hO2, hB2⟩
/-- Is a number a custodian's? -/
instance decOk (p : Pl) : Decidable p.Ok := decidable_of_iff' _ p.ok_iff
def isC (p : Pl) (i : Int) : Bool := decide (p.Ok ∧ 1 ≤ i ∧ i ≤ p.N)
theorem is_any (p : Pl) (i : Int) (w : World) : Calls Try.prog 76 #[planV p, .int .i64 i] w fun e w' => e = .returned (.bool (isC p i)) ∧ Below w.heap.size w w' := by
  by_cases h : p.Ok
  · rw [show isC p i = decide (1 ≤ i ∧ i ≤ p.N) from decide_eq_decide.2 ⟨fun a => a.2, fun a => ⟨h, a⟩⟩]
    exact is_yes p h i w
  · rw [show isC p i = false from decide_eq_false (fun a => h a.1)]
    exact is_no p h i w
theorem thClos_c (p : Pl) (b : Nat) (i : Int) (w : World) (HP : Blk w b (planC p) 48) :
   Calls Try.prog 96 #[.int .i64 i, .pointer (some ⟨b, 0, none⟩)] w fun e w' => e = .returned (.bool (!isC p i)) ∧ Below w.heap.size w w' := by
  obtain ⟨c0, c1, c2, c3, c4, c5⟩ := cells6 HP
  have hi := fun w => is_any p i w
  generalize isC p i = bb at *
  replace hi := Lib.hid hi
  go_enter Try.func96, Try.ntmps96
  go_wp2_with fail
  refine (hi.out _).mono ?_
  rintro e w2 ⟨rfl, h2⟩
  go_wp2
  go_ret
  exact ⟨rfl, h2⟩
theorem rest_filter {l z r : List Int} (h : IsRest l z r) (q : Int → Bool) : (r.filter q).Pairwise (· < ·) ∧ ∀ y, y ∈ r.filter q ↔ (y ∈ l ∧ y ∉ z) ∧ q y = true :=
  ⟨h.1.filter _, fun y => by rw [List.mem_filter, h.2]⟩
set_option maxRecDepth 100000 in
set_option maxHeartbeats 1600000 in
theorem those_c (p : Pl) (u : Value) (l : List Int) (i : Int) (w : World) (hu : Ri w u l) (hl : l.length ≤ 100000) :
   Calls Try.prog 74 #[planV p, u, .int .i64 i] w fun e w' => ∃ v r, e = .returned v ∧ Oi w w' v r ∧ Below w.heap.size w w' ∧ r.Pairwise (· < ·) ∧ ∀ y, y ∈ r ↔ (y ∈ l ∧ y ∉ [i]) ∧ isC p y = true := by
  have HP := Blk.new w (planC p) 48
  have hB := below_alloc (Below.refl w.heap.size w) (.cells (planC p) 48)
  have hu := hu.below hB
  replace hu := Lib.hid hu
  have hS : Hid ((w.alloc (.cells (planC p) 48)).heap.size = w.heap.size + 1) := Lib.hid (Array.size_push _)
  go_enter Try.func74, Try.ntmps74
  go_wp2_with fail
  generalize w.alloc (.cells (planC p) 48) = w0 at *
  have hlit := lit_ownI (w0 := w0) (W := w0) [i] #[.int .i64 i] rfl 1 rfl (by omega) (Nat.le_refl _)
  rw [hS.out] at hlit
  have hR := rest_c u _ l [i] (w0.alloc (.cells #[.int .i64 i] 3)) (hu.out.alloc _) (Own.rk hlit) hl
  have hA : Below w0.heap.size w0 (w0.alloc (.cells #[.int .i64 i] 3)) := below_alloc (Below.refl _ _) _
  refine hR.mono ?_
  rintro e w1 ⟨v, r, rfl, hO, hB1, hr⟩
  have hO1 := Own.lower hO hA
  have hB2 := bt_ hA hB1
  have hD := Lib.hid (delThose_c (.pointer (some ⟨w.heap.size, 0, none⟩)) (fun y => !isC p y) v r w0 w1 hB2 hO1 (fun y wr hb => thClos_c p w.heap.size y wr (HP.below hb)))
  replace hr := Lib.hid (rest_filter hr (fun y => isC p y))
  clear hR hA hlit hO hB1
  go_wp2_with fail
  refine hD.out.mono ?_
  rintro e w2 ⟨v2, rfl, hO3, hB3⟩
  go_wp2
  go_ret
  simp only [Bool.not_not] at hO3
  exact ⟨_, _, rfl, Own.lower hO3 hB, bt_ hB hB3, hr.out⟩
end Go.Proofs.Ytacbenjfiabegaa
