/- Pairs that are held: rows of arrays of two numbers. -/
import Derived.Test.YtacbenjfiabegaaTa
import Derived.Deep.RegionHeld3
namespace Go.Proofs.Ytacbenjfiabegaa
set_option linter.unusedVariables false
set_option linter.unusedSimpArgs false
open Go.RowKit Go.Proofs.YtacbenjfiabegaaW.PrintWords Go.Proofs.Sh

theorem infoQ : (Try.prog.info? 78).map (fun i => (i.zero, i.size, i.bytes)) = some (some (.agg #[.int .i64 0, .int .i64 0]), 2, 16) := by kernel_rfl
/-- A row of pairs, of one's own. -/
abbrev Oq (w0 w : World) (v : Value) (l : List (Int × Int)) : Prop := Own kp 78 w0 w v l
abbrev Rq (w : World) (v : Value) (l : List (Int × Int)) : Prop := Rk kp w v l
theorem oq_own {w0 W : World} {v : Value} {xs : List (Int × Int)} (h : Oq w0 W v xs) : W.ownsRow w0.heap.size 78 2 v xs.length (flat xs) := by
  obtain ⟨_, inner, ho, hr⟩ := h
  have e := flat_of_reps xs inner hr
  subst e
  exact ho
theorem own_oq {w0 W : World} {v : Value} {xs : List (Int × Int)} (h : W.ownsRow w0.heap.size 78 2 v xs.length (flat xs)) : Oq w0 W v xs := ⟨fun _ _ => trivial, flat xs, h, reps_flat _ xs (fun _ => rfl)⟩
theorem Oq.form {w0 w : World} {v : Value} {l : List (Int × Int)} (h : Oq w0 w v l) (hl : 0 < l.length) : ∃ g cap, v = .slice (some ⟨g, 0, none⟩) l.length cap ∧ w0.heap.size ≤ g ∧ g < w.heap.size := by
  obtain ⟨g, cap, hv, hb, hlt⟩ := (oq_own h).form hl
  exact ⟨g, cap, hv, hb, hlt⟩
theorem oq_lt {w0 w : World} {v : Value} {l : List (Int × Int)} (h : Oq w0 w v l) {g : Nat} (hk : v.ownBlock = some g) : g < w.heap.size := by
  obtain ⟨cells, hc⟩ := own_typed (oq_own h) g hk
  exact blk_lt hc
theorem Oq.at {w0 w : World} {g n cap : Nat} {l : List (Int × Int)} (h : Oq w0 w (.slice (some ⟨g, 0, none⟩) n cap) l) (j : Nat) (hj : j < l.length) : w.cell? ⟨g, j * 2, none⟩ = some (.int .i64 (l.getD j dp).1) ∧ w.cell? ⟨g, j * 2 + 1, none⟩ = some (.int .i64 (l.getD j dp).2) ∧ ∀ k, w.frozen? ⟨g, k, none⟩ = false := by
  have ho := oq_own h
  obtain ⟨f1, f2⟩ := flat_at l j hj
  refine ⟨?_, ?_, fun k => ?_⟩
  · have hc := ho.cells (g := g) rfl (j * 2) _ f1
    rwa [add_plain] at hc
  · have hc := ho.cells (g := g) rfl (j * 2 + 1) _ f2
    rwa [add_plain] at hc
  · obtain ⟨cells, hc⟩ := own_typed ho g (by simp [Value.ownBlock])
    exact blk_frozen hc _
theorem lit_ownQ {w0 W : World} (l : List (Int × Int)) (cs : Array Value) (h : cs.toList = flat l) (n : Nat) (hn : n = l.length) (hm : n ≤ 9223372036854775807) (hB : w0.heap.size ≤ W.heap.size) :
    Oq w0 (W.alloc (.cells cs 78)) (.slice (some ⟨W.heap.size, 0, none⟩) n n) l := by
  subst hn
  have ho := World.ownsRow_lit (base := w0.heap.size) (e := 78) (size := 2) W cs l.length hB (by simpa [maxLen] using hm) (by rw [← Array.length_toList, h, flat_len])
  rw [h] at ho
  exact own_oq ho
theorem Sp.held {w0 w w1 : World} {b g c : Nat} {l : List Bool} {v : Value} {H : List (Int × Int)} (h : Sp w0 w b g c l) (hO : Oq w0 w v H) (hg : w.grownBy w1 v.ownBlock) : Sp w0 w1 b g c l := by
  refine ⟨h.base, blk_grown h.box hg (own_ne (oq_own hO) h.box (by decide)), own_ol (own_other (ol_own h.own) hg (.inr ?_))⟩
  obtain ⟨cells, hc⟩ := own_typed (ol_own h.own) g rfl
  have := own_ne (oq_own hO) (show Blk w g cells 4 from hc) (by decide)
  intro e
  exact this (by rw [← e]; rfl)
theorem Oq.held {w0 w w1 : World} {b g c : Nat} {l : List Bool} {v : Value} {H : List (Int × Int)} (h : Oq w0 w v H) (hS : Sp w0 w b g c l) (hg : w.grownBy w1 (some g)) : Oq w0 w1 v H := by
  refine own_oq (own_other (oq_own h) hg (.inr ?_))
  obtain ⟨cells, hc⟩ := own_typed (ol_own hS.own) g rfl
  exact fun e => own_ne (oq_own h) (show Blk w g cells 4 from hc) (by decide) (by rw [e])
section
variable {ops : Array Oper} {rest : List Oper} {o : Oper} {a : Act} {K : Act → World → Prop} {Q : Exit → Act → World → Prop} {E : Prop}
theorem step_app_q {w0 W : World} (hgd : o.guard = none) (s x : Operand)
    (ho : o.op = .call { callee := .builtin .append, args := #[s, x], argTypes := #[77, 77] })
    (v : Value) (xs ys : List (Int × Int)) (u : Value) (hs : a.eval s = v) (hx : a.eval x = u)
    (HO : Oq w0 W v xs) (HR : Rq W u ys) (HB : Below w0.heap.size w0 W) (hl : xs.length + ys.length ≤ 1000000)
    (h : ∀ v1 w1, Oq w0 w1 v1 (xs ++ ys) → Below w0.heap.size w0 w1 → W.grownBy w1 v.ownBlock → K (a.put o.dst v1) w1) :
    if Region.wanted o (yielded ops a.tmps) = true then Oper.wp Try.prog o a W K Q else E := by
  obtain ⟨A, c, rfl, hc, hr⟩ := HR
  have hw : Region.wanted o (yielded ops a.tmps) = true := by simp [Region.wanted, hgd]
  have := Kd.R_append_rows_step (Kc := K) (Q := Q) kp (Rr := kp.K W) (w0 := w0) w0.heap.size hw s x 77 78 (.agg #[.int .i64 0, .int .i64 0]) 16 ho Try.underlying77 infoQ rfl (by decide) (by decide) v xs ys A ys.length c T_ (fun _ => False) hs hx HO hr (fun _ _ hk => hk) (fun _ hk => hk.elim) (fun _ _ => trivial) HB HB.size (by omega)
    (fun v1 w1 ho' hb' hg' _ => h v1 w1 ho' hb' hg')
  rw [if_pos hw] at this ⊢
  exact this
theorem app_q {w0 W : World} (hgd : o.guard = none) (s x : Operand)
    (ho : o.op = .call { callee := .builtin .append, args := #[s, x], argTypes := #[77, 77] })
    (v : Value) (xs : List (Int × Int)) (y1 y2 : Int) (hs : a.eval s = v) (hx : a.eval x = .slice (some ⟨W.heap.size, 0, none⟩) 1 1)
    (HO : Oq w0 W v xs) (HB : Below w0.heap.size w0 W) (hl : xs.length ≤ 1000000)
    (h : ∀ v1 w1, Oq w0 w1 v1 (xs ++ [(y1, y2)]) → Below w0.heap.size w0 w1 → W.grownBy w1 v.ownBlock → wpList Try.prog ops Q rest (a.put o.dst v1) w1) :
    wpList Try.prog ops Q (o :: rest) a (W.alloc (.cells #[.int .i64 y1, .int .i64 y2] 78)) := by
  refine Kd.R_append kp (w0 := w0) w0.heap.size hgd s x 77 78 (.agg #[.int .i64 0, .int .i64 0]) 16 ho Try.underlying77 infoQ rfl (by decide) (by decide) v xs (y1, y2) [.int .i64 y1, .int .i64 y2] T_ (fun _ => False) hs hx rfl (fun _ hk => hk.elim) (fun _ _ => trivial) HO HB HB.size (by omega) ?_
  intro v1 w1 ho' hb' hg' hat
  exact h v1 w1 ho' hb' hg'
end
theorem q_info : ∃ i, Try.prog.info? 78 = some i ∧ i.size = 2 := by
  have h := infoQ
  cases hi : Try.prog.info? 78 with
  | none => rw [hi] at h; cases h
  | some i =>
    rw [hi] at h
    simp only [Option.map_some, Option.some.injEq, Prod.mk.injEq] at h
    exact ⟨i, rfl, h.2.1⟩
theorem cutB_q (A : Option Addr) (n c i : Nat) (h : i ≤ n) (W : World) : (Instr.slice 77 (.slice A n c) (some (.int .i64 i)) none none).run Try.prog W = .ok (.slice (if c = i then A else A.map (·.add (i * 2))) (n - i) (c - i)) W := by
  obtain ⟨ii, hi, hsz⟩ := q_info
  have := cut_from (P := Try.prog) 77 78 .i64 Try.underlying77 hi 2 hsz A n c (i : Int) (by omega) (by omega) W
  rwa [Int.toNat_natCast] at this
theorem cutA_q (A : Option Addr) (n c i : Nat) (h : i ≤ n) (hc : n ≤ c) (W : World) : (Instr.slice 77 (.slice A n c) none (some (.int .i64 i)) none).run Try.prog W = .ok (.slice A i c) W := by
  obtain ⟨ii, hi, hsz⟩ := q_info
  have := cut_to (P := Try.prog) 77 78 .i64 Try.underlying77 hi A n c (i : Int) (by omega) (by omega) hc W
  rwa [Int.toNat_natCast] at this
theorem rq_right {w : World} {A : Option Addr} {c : Nat} {r : List (Int × Int)} (h : Rq w (.slice A r.length c) r) (m : Nat) (hm : m ≤ r.length) : Rq w (.slice (if c = m then A else A.map (·.add (m * 2))) (r.length - m) (c - m)) (r.drop m) := by
  have := Kd.C_drop (c := c) (rk_C h) hm (rk_cap h)
  exact ⟨_, c - m, by rw [List.length_drop]; rfl, by rw [List.length_drop]; have := rk_cap h; omega, this⟩
theorem rq_left {w : World} {A : Option Addr} {c : Nat} {r : List (Int × Int)} (h : Rq w (.slice A r.length c) r) (m : Nat) (hm : m ≤ r.length) : Rq w (.slice A m c) (r.take m) :=
  ⟨A, c, by rw [List.length_take, Nat.min_eq_left hm], by rw [List.length_take]; have := rk_cap h; omega, Kd.C_take (rk_C h) hm⟩
/-! ### plain: what is held -/
def apart (a b : Int × Int) : Prop := a.1 + a.2 ≤ b.1 ∨ b.1 + b.2 ≤ a.1
structure Held (l : List Bool) (H : List (Int × Int)) : Prop where
  len : l.length = 40
  ok : ∀ h ∈ H, 1 ≤ h.2 ∧ 0 ≤ h.1 ∧ h.1 + h.2 ≤ 40 ∧ ∀ j : Nat, h.1 ≤ j → (j : Int) < h.1 + h.2 → l.getD j false = false
  apart : H.Pairwise apart
  cnt : cntT l = 40 - sumR H
theorem fillS_at (l : List Bool) (a : Nat) (f : Bool) : ∀ k, a + k ≤ l.length → ∀ j, (fillS l a f k).getD j false = if a ≤ j ∧ j < a + k then f else l.getD j false
  | 0, _, j => by rw [fillS, if_neg (by omega)]
  | k + 1, h, j => by
    have ih := fillS_at l a f k (by omega)
    rw [fillS, List.getD_eq_getElem?_getD, List.getElem?_set]
    by_cases e : a + k = j
    · rw [if_pos e, fillS_len, if_pos (by omega), if_pos (by omega)]
      rfl
    · rw [if_neg e, ← List.getD_eq_getElem?_getD, ih]
      by_cases h2 : a ≤ j ∧ j < a + k
      · rw [if_pos h2, if_pos (by omega)]
      · rw [if_neg h2, if_neg (by omega)]
theorem cntT_set : ∀ (l : List Bool) (j : Nat) (f : Bool), j < l.length → cntT (l.set j f) = cntT l + (if f then 1 else 0) - (if l.getD j false then 1 else 0)
  | b :: l, 0, f, _ => by simp only [List.set_cons_zero, cntT, List.getD_cons_zero]; omega
  | b :: l, j + 1, f, h => by
    have := cntT_set l j f (by simpa using h)
    simp only [List.set_cons_succ, cntT, List.getD_cons_succ]
    omega
theorem cntT_fill (l : List Bool) (a : Nat) (f : Bool) : ∀ k, a + k ≤ l.length → (∀ j, a ≤ j → j < a + k → l.getD j false = !f) → cntT (fillS l a f k) = cntT l + (if f then (k : Int) else -(k : Int))
  | 0, _, _ => by cases f <;> simp [fillS]
  | k + 1, h, hf => by
    have ih := cntT_fill l a f k (by omega) (fun j h1 h2 => hf j h1 (by omega))
    have e1 := cntT_set (fillS l a f k) (a + k) f (by rw [fillS_len]; omega)
    have e2 := fillS_at l a f k (by omega) (a + k)
    rw [if_neg (by omega), hf (a + k) (by omega) (by omega)] at e2
    rw [e2, ih] at e1
    rw [fillS, e1]
    cases f <;> simp <;> omega
theorem Held.start : Held (List.replicate (newN 40) true) [] := ⟨by decide, fun h hh => (by cases hh), List.Pairwise.nil, by decide⟩
theorem Held.give {l : List Bool} {H : List (Int × Int)} (h : Held l H) {k : Nat} (hk : k < H.length) :
    allB l (H.getD k dp).1 (H.getD k dp).2 (!true) = true ∧ Held (setL l (H.getD k dp).1 (H.getD k dp).2 true) (H.take k ++ H.drop (k + 1)) := by
  have hm : H.getD k dp ∈ H := by rw [List.getD_eq_getElem?_getD, List.getElem?_eq_getElem hk]; exact List.getElem_mem _
  have hsplit : H = H.take k ++ H.getD k dp :: H.drop (k + 1) := by
    conv => lhs; rw [← List.take_append_drop k H, List.drop_eq_getElem_cons hk]
    rw [List.getD_eq_getElem?_getD, List.getElem?_eq_getElem hk]
    rfl
  generalize H.getD k dp = r at *
  obtain ⟨r1, r2⟩ := r
  obtain ⟨q1, q2, q3, q4⟩ := h.ok _ hm
  simp only at q1 q2 q3 q4
  have hl := h.len
  have hall : allB l r1 r2 (!true) = true := by
    unfold allB
    rw [Bool.and_eq_true]
    refine ⟨decide_eq_true (by omega), ?_⟩
    rw [Bool.not_eq_true', decide_eq_false_iff_not]
    intro hmm
    rw [List.mem_take_iff_getElem] at hmm
    obtain ⟨i, hi, he⟩ := hmm
    rw [List.length_drop] at hi
    rw [List.getElem_drop] at he
    have := q4 (r1.toNat + i) (by omega) (by omega)
    rw [List.getD_eq_getElem?_getD, List.getElem?_eq_getElem (by omega)] at this
    simp only [Option.getD_some] at this
    rw [this] at he
    cases he
  have hpw := h.apart
  have hs := congrArg sumR hsplit
  rw [hsplit, List.pairwise_append, List.pairwise_cons] at hpw
  refine ⟨hall, ?_⟩
  unfold setL
  rw [if_pos hall]
  have hsub : ∀ x, x ∈ H.take k ++ H.drop (k + 1) → x ∈ H ∧ Go.Proofs.Ytacbenjfiabegaa.apart x (r1, r2) := by
    intro x hx
    rcases List.mem_append.1 hx with hx | hx
    · exact ⟨List.mem_of_mem_take hx, hpw.2.2 x hx _ (by simp)⟩
    · exact ⟨List.mem_of_mem_drop hx, (hpw.2.1.1 x hx).symm⟩
  refine ⟨by rw [fillS_len]; exact hl, fun x hx => ?_, ?_, ?_⟩
  · obtain ⟨hxH, hxa⟩ := hsub x hx
    obtain ⟨p1, p2, p3, p4⟩ := h.ok x hxH
    refine ⟨p1, p2, p3, fun j j1 j2 => ?_⟩
    rw [fillS_at l _ _ _ (by omega), if_neg ?_]
    · exact p4 j j1 j2
    · unfold Go.Proofs.Ytacbenjfiabegaa.apart at hxa
      simp only at hxa
      omega
  · rw [List.pairwise_append]
    exact ⟨hpw.1, hpw.2.1.2, fun a ha b hb => hpw.2.2 a ha b (List.mem_cons_of_mem _ hb)⟩
  · rw [cntT_fill l _ true _ (by omega) (fun j j1 j2 => q4 j (by omega) (by omega)), h.cnt, hs, sumR_app, sumR_app]
    simp only [sumR, if_true]
    omega
theorem fit_max : ∀ (R : List (Int × Int)) (n : Int), 1 ≤ n → (fitR R n).isSome = decide (n ≤ maxR R)
  | [], n, h => by
    unfold fitR maxR
    exact (decide_eq_false (by omega)).symm
  | r :: R, n, h => by
    have ih := fit_max R n h
    unfold fitR at ih ⊢
    by_cases h2 : n ≤ r.2
    · rw [List.find?_cons_of_pos (by simpa using h2)]
      simp only [maxR, Option.isSome_some]
      exact (decide_eq_true (by omega)).symm
    · rw [List.find?_cons_of_neg (by simpa using h2), ih]
      simp only [maxR]
      exact decide_eq_decide.2 (by omega)
theorem take_ok (l : List Bool) (n : Int) (h : 1 ≤ n) : (takeL l n).2.1 = decide (n ≤ maxR (runsL l)) := by
  rw [← fit_max _ _ h]
  unfold takeL
  rw [if_neg (by omega)]
  cases fitR (runsL l) n <;> rfl
theorem Held.take {l : List Bool} {H : List (Int × Int)} (h : Held l H) {n : Int} (h1 : 1 ≤ n) (hok : (takeL l n).2.1 = true) :
    (∀ x ∈ H, ¬ ((takeL l n).1 < x.1 + x.2 ∧ x.1 < (takeL l n).1 + n)) ∧ Held (takeL l n).2.2 (H ++ [((takeL l n).1, n)]) ∧ 0 ≤ (takeL l n).1 ∧ (takeL l n).1 + n ≤ 40 := by
  unfold takeL at hok ⊢
  rw [if_neg (by omega)] at hok ⊢
  cases hf : fitR (runsL l) n with
  | none => rw [hf] at hok; cases hok
  | some r =>
    simp only
    have hf2 : (runsL l).find? (fun r => decide (n ≤ r.2)) = some r := hf
    have hr : r ∈ runsL l := List.mem_of_find?_eq_some hf2
    have hn : n ≤ r.2 := by have h9 := List.find?_some hf2; simpa using h9
    obtain ⟨q1, q2, q3, q4⟩ := runs_mem hr
    have hl := h.len
    obtain ⟨r1, r2⟩ := r
    simp only at hn q1 q2 q3 q4 ⊢
    have hno : ∀ x ∈ H, ¬ (r1 < x.1 + x.2 ∧ x.1 < r1 + n) := by
      intro x hx hc
      obtain ⟨p1, p2, p3, p4⟩ := h.ok x hx
      have a1 := q4 (max r1 x.1).toNat (by omega) (by omega)
      have a2 := p4 (max r1 x.1).toNat (by omega) (by omega)
      rw [a1] at a2
      cases a2
    refine ⟨hno, ⟨by rw [fillS_len]; exact hl, fun x hx => ?_, ?_, ?_⟩, q2, by omega⟩
    · rcases List.mem_append.1 hx with hx | hx
      · obtain ⟨p1, p2, p3, p4⟩ := h.ok x hx
        refine ⟨p1, p2, p3, fun j j1 j2 => ?_⟩
        rw [fillS_at l _ _ _ (by omega)]
        split
        · rfl
        · exact p4 j j1 j2
      · obtain rfl : x = (r1, n) := by simpa using hx
        refine ⟨h1, q2, by simp only; omega, fun j j1 j2 => ?_⟩
        simp only at j1 j2
        rw [fillS_at l _ _ _ (by omega), if_pos (by omega)]
    · rw [List.pairwise_append]
      refine ⟨h.apart, by simp, fun x hx y hy => ?_⟩
      obtain rfl : y = (r1, n) := by simpa using hy
      have := hno x hx
      unfold Go.Proofs.Ytacbenjfiabegaa.apart
      simp only
      omega
    · rw [cntT_fill l _ false _ (by omega) (fun j j1 j2 => q4 j (by omega) (by omega)), h.cnt, sumR_app]
      simp only [sumR, Bool.false_eq_true, if_false]
      omega
end Go.Proofs.Ytacbenjfiabegaa
