/- The walk of space: Take. -/
import Derived.Test.YtacbenjfiabegaaSh
import Derived.Deep.RegionHeld3
namespace Go.Proofs.Ytacbenjfiabegaa
set_option linter.unusedVariables false
set_option linter.unusedSimpArgs false
open Go.RowKit Go.Proofs.YtacbenjfiabegaaW.PrintWords Go.Proofs.Sh

theorem heapR_pop {H R : List (Int × Int)} (h : HeapR H R) (hr : R.Pairwise (fun r s => r.1 + r.2 < s.1)) (hp : ∀ r ∈ R, 0 ≤ r.2) {n : Nat} (hn : H.length = n + 1) :
    ∃ R', R = H.getD 0 dp :: R' ∧ HeapR ((Hp.popL dp Prod.fst H).take n) R' := by
  obtain ⟨q1, q2, q3, q4, q5⟩ := Hp.pop_ok dp Prod.fst H (by omega) h.1
  rw [hn, Nat.add_sub_cancel] at q3 q4
  have h0 : H.getD 0 dp ∈ H := by rw [List.getD_eq_getElem?_getD, List.getElem?_eq_getElem (by omega)]; exact List.getElem_mem _
  have hR0 : H.getD 0 dp ∈ R := h.2.mem_iff.1 h0
  rcases R with _ | ⟨x, R'⟩
  · cases hR0
  · have hx : H.getD 0 dp = x := by
      rcases List.mem_cons.1 hR0 with e | e
      · exact e
      · have h1 := (List.pairwise_cons.1 hr).1 _ e
        have h2 := q5 x (h.2.mem_iff.2 (by simp))
        have h3 := hp x (by simp)
        omega
    refine ⟨R', by rw [hx], ?_, ?_⟩
    · have : ((Hp.popL dp Prod.fst H).take n).length = n := by rw [List.length_take, q1, hn]; omega
      rw [this]
      exact q3
    · have h1 := (List.perm_append_comm (l₁ := [H.getD 0 dp]) (l₂ := (Hp.popL dp Prod.fst H).take n)).trans (q4.trans h.2)
      rw [hx] at h1
      exact (List.perm_cons x).1 h1
def fitR (R : List (Int × Int)) (n : Int) : Option (Int × Int) := R.find? (fun r => decide (n ≤ r.2))
theorem fit_skip {pre R : List (Int × Int)} {n : Int} (h : ∀ r ∈ pre, r.2 < n) : fitR (pre ++ R) n = fitR R n := by
  unfold fitR
  rw [List.find?_append, List.find?_eq_none.2 (fun r hr => by have := h r hr; simp; omega)]
  rfl
/-- How far the runs are taken from the heap. -/
structure Far (l : List Bool) (n : Int) (H R : List (Int × Int)) : Prop where
  heap : HeapR H R
  pre : ∃ pre, runsL l = pre ++ R ∧ ∀ r ∈ pre, r.2 < n
theorem Far.sub {l : List Bool} {n : Int} {H R : List (Int × Int)} (h : Far l n H R) : (∀ r ∈ R, r ∈ runsL l) ∧ R.Pairwise (fun r s => r.1 + r.2 < s.1) ∧ fitR (runsL l) n = fitR R n := by
  obtain ⟨pre, e, hp⟩ := h.pre
  refine ⟨fun r hr => by rw [e]; exact List.mem_append_right _ hr, ?_, by rw [e, fit_skip hp]⟩
  have := runs_rise l
  rw [e, List.pairwise_append] at this
  exact this.2.1
theorem Far.step {l : List Bool} {n : Int} {H R : List (Int × Int)} (h : Far l n H R) {m : Nat} (hn : H.length = m + 1) :
    H.getD 0 dp ∈ runsL l ∧ (n ≤ (H.getD 0 dp).2 → fitR (runsL l) n = some (H.getD 0 dp)) ∧ ((H.getD 0 dp).2 < n → ∃ R', Far l n ((Hp.popL dp Prod.fst H).take m) R') := by
  obtain ⟨s1, s2, s3⟩ := h.sub
  obtain ⟨R', e, h2⟩ := heapR_pop h.heap s2 (fun r hr => by have := runs_mem (s1 r hr); omega) hn
  obtain ⟨pre, e2, hp⟩ := h.pre
  refine ⟨s1 _ (by rw [e]; simp), fun hle => ?_, fun hlt => ⟨R', h2, pre ++ [H.getD 0 dp], ?_, ?_⟩⟩
  · rw [s3, e]
    unfold fitR
    rw [List.find?_cons_of_pos (by simpa using hle)]
  · rw [e2]
    conv => lhs; rw [e]
    rw [List.append_assoc]
    rfl
  · intro r hr
    rcases List.mem_append.1 hr with hr | hr
    · exact hp r hr
    · rw [List.mem_singleton.1 hr]
      exact hlt
theorem Far.stop {l : List Bool} {n : Int} {R : List (Int × Int)} (h : Far l n [] R) : fitR (runsL l) n = none := by
  obtain ⟨_, _, s3⟩ := h.sub
  have : R = [] := (h.heap.2.symm).eq_nil
  rw [s3, this]
  rfl
def lenR (w : World) (b : Nat) : Nat := match w.cell? ⟨b, 0, none⟩ with | some (.slice _ n _) => n | _ => 0
theorem lenR_of {w : World} {b : Nat} {A : Option Addr} {n c : Nat} (h : w.cell? ⟨b, 0, none⟩ = some (.slice A n c)) : lenR w b = n := by unfold lenR; rw [h]
set_option maxRecDepth 100000 in
set_option maxHeartbeats 3200000 in
theorem take_no (p : Value) (l : List Bool) (n : Int) (w : World) (h : Rs w p l) (hl : l.length ≤ 1000) (hno : n < 1 ∨ fitR (runsL l) n = none) :
   Calls Try.prog 29 #[p, .int .i64 n] w fun e w' => e = .returned (.tuple #[.int .i64 0, .bool false]) ∧ Below w.heap.size w w' := by
  replace hno := Lib.hid hno
  go_enter Try.func29, Try.ntmps29
  go_wp2_with fail
  refine (heap_c p l w h (by omega)).mono ?_
  rintro e w1 ⟨b2, v, H, rfl, hN, hB1, hH⟩
  by_cases hn : n < 1
  · have t1 : decide (0 < n) = false := decide_eq_false (by omega)
    replace hN := Lib.hid hN
    skip
    go_wp2_with fail
    go_loopw [7] (fun s wr => wr = w1) (fun _ _ => 0)
    case atStart => rfl
    case round =>
      obtain rfl := hrel
      go_wp2
      go_ret2
      exact ⟨rfl, hB1⟩
  · have t1 : decide (0 < n) = true := decide_eq_true (by omega)
    have hF := Lib.hid (show Far l n H (runsL l) from ⟨hH, [], rfl, fun r hr => by cases hr⟩)
    have hHl := (heap_bnd hH hl).2
    clear hH
    go_wp2_with fail
    go_loopw [7] (fun s wr => ∃ v H R, Nr w wr b2 v H ∧ Below w.heap.size w wr ∧ H.length ≤ 1001 ∧ Hid (Far l n H R)) (fun _ wr => lenR wr b2)
    case atStart => exact ⟨v, H, _, hN, hB1, hHl, hF⟩
    case round =>
      clear hN hB1 hF hHl
      clear H v
      obtain ⟨v, H, R, hN, hB1, hHl, hF⟩ := hrel
      have hsm := someR_c b2 v H w wr hN
      go_wp2_with fail
      refine hsm.mono ?_
      rintro e w2 ⟨rfl, rfl⟩
      clear hsm
      by_cases h0 : 0 < H.length
      · rw [decide_eq_true h0]
        obtain ⟨g2, c2, rfl, hg1, hg2⟩ := Op.form hN.own h0
        obtain ⟨m, hm⟩ : ∃ m, H.length = m + 1 := ⟨H.length - 1, by omega⟩
        obtain ⟨s1, s2, s3⟩ := hF.out.step hm
        have hheap := hF.out.heap.1
        obtain ⟨d1, d2, _⟩ := Op.at hN.own 0 h0
        rw [Nat.zero_mul] at d1 d2
        have c0 := hN.box.one
        have hlen := lenR_of c0
        rw [hm] at c0 hN
        have hy := Blk.new wr #[.int .i64 (H.getD 0 dp).1, .int .i64 (H.getD 0 dp).2] 108
        have hBy := below_alloc (Below.refl wr.heap.size wr) (.cells #[.int .i64 (H.getD 0 dp).1, .int .i64 (H.getD 0 dp).2] 108)
        have hpop := Lib.hid (shPop_c b2 g2 m c2 H w _ (hN.drawn hBy) (bt_ hB1 hBy) hm (by omega) hheap)
        have hlen2 : ((Hp.popL dp Prod.fst H).take m).length = m := by rw [List.length_take, (Hp.pop_ok dp Prod.fst H h0 hheap).1, hm]; omega
        have hyge : Hid (w.heap.size ≤ wr.heap.size) := Lib.hid hB1.size
        have hyg : some wr.heap.size ≠ (Value.slice (some ⟨g2, 0, none⟩) (m + 1) c2).ownBlock := fun e => by
          have : wr.heap.size = g2 := by simpa [Value.ownBlock] using e
          omega
        replace s1 := Lib.hid s1
        replace s2 := Lib.hid s2
        replace s3 := Lib.hid s3
        generalize H.getD 0 dp = r at *
        obtain ⟨r1, r2⟩ := r
        generalize (Hp.popL dp Prod.fst H).take m = H2 at *
        clear hheap hF
        go_wp2_with fail
        generalize wr.alloc (.cells #[.int .i64 r1, .int .i64 r2] 108) = w2 at *
        generalize wr.heap.size = by_ at *
        refine hpop.out.mono ?_
        rintro e w3 ⟨rfl, hN3, hB3, hK3⟩
        have hy3 := (hK3 _ _ _ hy hyg (by decide)).1
        have e0 : w3.cell? ⟨by_, 0, none⟩ = some (.int .i64 r1) := hy3.cell 0 _ rfl
        have e1 : w3.cell? ⟨by_, 1, none⟩ = some (.int .i64 r2) := hy3.cell 1 _ rfl
        have hlen3 := lenR_of hN3.box.one
        clear hpop hy hK3 d1 d2 c0 hyg hBy hN hB1
        by_cases hfit : n ≤ r2
        · have t2 : decide (n ≤ r2) = true := decide_eq_true hfit
          have s2 := Lib.hid (s2.out hfit)
          clear s3
          exact absurd s2.out (by rcases hno.out with h9 | h9 <;> first | omega | (rw [h9]; simp))
        · have t2 : decide (n ≤ r2) = false := decide_eq_false hfit
          have s3 := s3.out (by first | omega | (simp only; omega))
          obtain ⟨R2, s3⟩ := s3
          replace s3 := Lib.hid s3
          clear s2 s1 hfit
          go_wp2
          exact ⟨⟨_, H2, R2, hN3, hB3, by omega, s3⟩, by rw [hlen3, hlen]; omega⟩
      · rw [decide_eq_false h0]
        obtain rfl : H = [] := List.length_eq_zero_iff.1 (by omega)
        have hE := Lib.hid (hF.out.stop)
        clear h0 hF
        go_wp2
        go_ret2
        exact ⟨rfl, hB1⟩
/-- What Take leaves. -/
def takeL (l : List Bool) (n : Int) : Int × Bool × List Bool := if n < 1 then (0, false, l) else match fitR (runsL l) n with | some r => (r.1, true, fillS l r.1.toNat false n.toNat) | none => (0, false, l)
theorem takeL_no {l : List Bool} {n : Int} (h : n < 1 ∨ fitR (runsL l) n = none) : takeL l n = (0, false, l) := by
  unfold takeL
  split
  · rfl
  · rename_i hn
    rw [h.resolve_left hn]
theorem takeL_yes {l : List Bool} {n : Int} {r : Int × Int} (hn : ¬ n < 1) (h : fitR (runsL l) n = some r) : takeL l n = (r.1, true, fillS l r.1.toNat false n.toNat) := by
  unfold takeL
  rw [if_neg hn, h]
theorem takeL_len (l : List Bool) (n : Int) : (takeL l n).2.2.length = l.length := by
  unfold takeL
  split
  · rfl
  · split
    · exact fillS_len _ _ _ _
    · rfl
set_option maxRecDepth 100000 in
set_option maxHeartbeats 3200000 in
theorem take_c (b g c : Nat) (l : List Bool) (n : Int) (w0 w : World) (hS : Sp w0 w b g c l) (hB0 : Below w0.heap.size w0 w) (hl : l.length ≤ 1000) :
   Calls Try.prog 29 #[.pointer (some ⟨b, 0, none⟩), .int .i64 n] w fun e w' => e = .returned (.tuple #[.int .i64 (takeL l n).1, .bool (takeL l n).2.1]) ∧ Sp w0 w' b g c (takeL l n).2.2 ∧ Below w0.heap.size w0 w' ∧ w.grownBy w' (some g) := by
  have h := hS.rs
  replace hS := Lib.hid hS
  replace hB0 := Lib.hid hB0
  go_enter Try.func29, Try.ntmps29
  go_wp2_with fail
  refine (heap_c _ l w h (by omega)).mono ?_
  rintro e w1 ⟨b2, v, H, rfl, hN, hB1, hH⟩
  by_cases hn : n < 1
  · have t1 : decide (0 < n) = false := decide_eq_false (by omega)
    replace hN := Lib.hid hN
    skip
    go_wp2_with fail
    go_loopw [7] (fun s wr => wr = w1) (fun _ _ => 0)
    case atStart => rfl
    case round =>
      obtain rfl := hrel
      go_wp2
      go_ret2
      (rw [takeL_no (.inl hn)]; exact ⟨rfl, hS.out.below hB1, bt_ hB0.out hB1, grown_of_below hB1 _⟩)
  · have t1 : decide (0 < n) = true := decide_eq_true (by omega)
    have hF := Lib.hid (show Far l n H (runsL l) from ⟨hH, [], rfl, fun r hr => by cases hr⟩)
    have hHl := (heap_bnd hH hl).2
    clear hH
    go_wp2_with fail
    go_loopw [7] (fun s wr => ∃ v H R, Nr w wr b2 v H ∧ Below w.heap.size w wr ∧ H.length ≤ 1001 ∧ Hid (Far l n H R)) (fun _ wr => lenR wr b2)
    case atStart => exact ⟨v, H, _, hN, hB1, hHl, hF⟩
    case round =>
      clear hN hB1 hF hHl
      clear H v
      obtain ⟨v, H, R, hN, hB1, hHl, hF⟩ := hrel
      have hsm := someR_c b2 v H w wr hN
      go_wp2_with fail
      refine hsm.mono ?_
      rintro e w2 ⟨rfl, rfl⟩
      clear hsm
      by_cases h0 : 0 < H.length
      · rw [decide_eq_true h0]
        obtain ⟨g2, c2, rfl, hg1, hg2⟩ := Op.form hN.own h0
        obtain ⟨m, hm⟩ : ∃ m, H.length = m + 1 := ⟨H.length - 1, by omega⟩
        obtain ⟨s1, s2, s3⟩ := hF.out.step hm
        have hheap := hF.out.heap.1
        obtain ⟨d1, d2, _⟩ := Op.at hN.own 0 h0
        rw [Nat.zero_mul] at d1 d2
        have c0 := hN.box.one
        have hlen := lenR_of c0
        rw [hm] at c0 hN
        have hy := Blk.new wr #[.int .i64 (H.getD 0 dp).1, .int .i64 (H.getD 0 dp).2] 108
        have hBy := below_alloc (Below.refl wr.heap.size wr) (.cells #[.int .i64 (H.getD 0 dp).1, .int .i64 (H.getD 0 dp).2] 108)
        have hpop := Lib.hid (shPop_c b2 g2 m c2 H w _ (hN.drawn hBy) (bt_ hB1 hBy) hm (by omega) hheap)
        have hlen2 : ((Hp.popL dp Prod.fst H).take m).length = m := by rw [List.length_take, (Hp.pop_ok dp Prod.fst H h0 hheap).1, hm]; omega
        have hyge : Hid (w.heap.size ≤ wr.heap.size) := Lib.hid hB1.size
        have hyg : some wr.heap.size ≠ (Value.slice (some ⟨g2, 0, none⟩) (m + 1) c2).ownBlock := fun e => by
          have : wr.heap.size = g2 := by simpa [Value.ownBlock] using e
          omega
        replace s1 := Lib.hid s1
        replace s2 := Lib.hid s2
        replace s3 := Lib.hid s3
        generalize H.getD 0 dp = r at *
        obtain ⟨r1, r2⟩ := r
        generalize (Hp.popL dp Prod.fst H).take m = H2 at *
        clear hheap hF
        go_wp2_with fail
        generalize wr.alloc (.cells #[.int .i64 r1, .int .i64 r2] 108) = w2 at *
        generalize wr.heap.size = by_ at *
        refine hpop.out.mono ?_
        rintro e w3 ⟨rfl, hN3, hB3, hK3⟩
        have hy3 := (hK3 _ _ _ hy hyg (by decide)).1
        have e0 : w3.cell? ⟨by_, 0, none⟩ = some (.int .i64 r1) := hy3.cell 0 _ rfl
        have e1 : w3.cell? ⟨by_, 1, none⟩ = some (.int .i64 r2) := hy3.cell 1 _ rfl
        have hlen3 := lenR_of hN3.box.one
        clear hpop hy hK3 d1 d2 c0 hyg hBy hN hB1
        by_cases hfit : n ≤ r2
        · have t2 : decide (n ≤ r2) = true := decide_eq_true hfit
          have s2 := Lib.hid (s2.out hfit)
          clear s3
          obtain ⟨q1, q2, q3, q4⟩ := runs_mem s1.out
          have hS3 := Lib.hid (hS.out.below hB3)
          have hB03 := Lib.hid (bt_ hB0.out hB3)
          have hfree := Lib.hid (run_free s1.out (show 1 ≤ n by omega) hfit)
          have hres := Lib.hid (takeL_yes (show ¬ n < 1 by omega) s2.out)
          have hyne : by_ ≠ g := by
            have := hS.out.glt
            have := hyge.out
            omega
          replace hy3 := Lib.hid hy3
          replace hB3 := Lib.hid hB3
          replace hN3 := Lib.hid hN3
          clear s1 s2 q3 q4
          go_wp2_with fail
          go_region_held3 (fun w' => w'.cell? ⟨by_, 0, none⟩ = some (.int .i64 r1))
            (go_keep)
            (first
            | (go_at_call 69; have hd := below_drew (Below.refl w3.heap.size w3); have hsx := set_yes b g c l r1 n false w0 _ (hS3.out.below hd) (below_drew hB03.out) hfree.out; refine hsx.mono ?_; rintro e w9 ⟨rfl, hS9, hB9, hG9⟩; replace hG9 := World.grownBy.trans (grown_of_below hd _) hG9; have e9 : w9.cell? ⟨by_, 0, none⟩ = some (.int .i64 r1) := Blk.cell (show Blk w9 by_ #[.int .i64 r1, .int .i64 r2] 108 from blk_grown hy3.out hG9 (by simpa using hyne)) 0 _ rfl)
            | fail)
          all_goals
            go_wp2
            go_ret2
            rw [hres.out]
            exact ⟨rfl, hS9, hB9, World.grownBy.trans (grown_of_below hB3.out _) hG9⟩
        · have t2 : decide (n ≤ r2) = false := decide_eq_false hfit
          have s3 := s3.out (by first | omega | (simp only; omega))
          obtain ⟨R2, s3⟩ := s3
          replace s3 := Lib.hid s3
          clear s2 s1 hfit
          go_wp2
          exact ⟨⟨_, H2, R2, hN3, hB3, by omega, s3⟩, by rw [hlen3, hlen]; omega⟩
      · rw [decide_eq_false h0]
        obtain rfl : H = [] := List.length_eq_zero_iff.1 (by omega)
        have hE := Lib.hid (hF.out.stop)
        clear h0 hF
        go_wp2
        go_ret2
        (rw [takeL_no (.inr hE.out)]; exact ⟨rfl, hS.out.below hB1, bt_ hB0.out hB1, grown_of_below hB1 _⟩)
end Go.Proofs.Ytacbenjfiabegaa
