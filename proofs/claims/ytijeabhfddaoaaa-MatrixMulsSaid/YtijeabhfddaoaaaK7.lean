/- append(v, ys...) of rows of bytes and of numbers; ContainsFunc of numbers. -/
import Derived.Test.YtijeabhfddaoaaaK6
import Derived.Test.YtijeabhfddaoaaaSl
namespace Go.Proofs.Ytijeabhfddaoaaa
set_option linter.unusedVariables false
open Go.RowKit Go.Proofs.YtijeabhfddaoaaaW.PrintWords Go.Proofs.Sh

section
variable {P : Program} {ops : Array Oper} {rest : List Oper} {o : Oper} {a : Act} {K : Act → World → Prop} {Q : Exit → Act → World → Prop} {α : Type} {E : Prop}
theorem app_many {enc : α → Value} {h1 : ∀ x, (enc x).oneCell' = true} {w0 W : World} (hgd : o.guard = none) (s x : Operand) (t e : TypeId) (z : Value) (bytes : Nat)
    (ho : o.op = .call { callee := .builtin .append, args := #[s, x], argTypes := #[t, t] })
    (ht : P.underlying t = some (.slice e)) (hinfo : (P.info? e).map (fun i => (i.zero, i.size, i.bytes)) = some (some z, 1, bytes)) (hz : z.cells.size = 1) (hb0 : 0 < bytes)
    (v : Value) (xs ys : List α) (u : Value) (hs : a.eval s = v) (hx : a.eval x = u)
    (HO : Own (Kd.scalar enc h1) e w0 W v xs) (HR : Rk (Kd.scalar enc h1) W u ys) (HB : Below w0.heap.size w0 W) (hl : (xs.length + ys.length) * bytes ≤ 140737488355328)
    (h : ∀ v1 w1, Own (Kd.scalar enc h1) e w0 w1 v1 (xs ++ ys) → Below w0.heap.size w0 w1 → W.grownBy w1 v.ownBlock → wpList P ops Q rest (a.put o.dst v1) w1) :
    wpList P ops Q (o :: rest) a W := by
  obtain ⟨A, c, rfl, hc, hr⟩ := HR
  exact Kd.R_append_rows (Kd.scalar enc h1) (Rr := (Kd.scalar enc h1).K W) (w0 := w0) w0.heap.size hgd s x t e z bytes ho ht hinfo hz Nat.one_pos hb0 v xs ys A ys.length c T_ (fun _ => False) hs hx HO hr (fun _ _ hk => hk) (fun _ hk => hk.elim) (fun _ _ => trivial) HB HB.size hl
    (fun v1 w1 ho' hb' hg' _ => h v1 w1 ho' hb' hg')
theorem step_app_many {enc : α → Value} {h1 : ∀ x, (enc x).oneCell' = true} {w0 W : World} (hgd : o.guard = none) (s x : Operand) (t e : TypeId) (z : Value) (bytes : Nat)
    (ho : o.op = .call { callee := .builtin .append, args := #[s, x], argTypes := #[t, t] })
    (ht : P.underlying t = some (.slice e)) (hinfo : (P.info? e).map (fun i => (i.zero, i.size, i.bytes)) = some (some z, 1, bytes)) (hz : z.cells.size = 1) (hb0 : 0 < bytes)
    (v : Value) (xs ys : List α) (u : Value) (hs : a.eval s = v) (hx : a.eval x = u)
    (HO : Own (Kd.scalar enc h1) e w0 W v xs) (HR : Rk (Kd.scalar enc h1) W u ys) (HB : Below w0.heap.size w0 W) (hl : (xs.length + ys.length) * bytes ≤ 140737488355328)
    (h : ∀ v1 w1, Own (Kd.scalar enc h1) e w0 w1 v1 (xs ++ ys) → Below w0.heap.size w0 w1 → W.grownBy w1 v.ownBlock → K (a.put o.dst v1) w1) :
    if Region.wanted o (yielded ops a.tmps) = true then Oper.wp P o a W K Q else E := by
  obtain ⟨A, c, rfl, hc, hr⟩ := HR
  have hw : Region.wanted o (yielded ops a.tmps) = true := by simp [Region.wanted, hgd]
  have := Kd.R_append_rows_step (Kc := K) (Q := Q) (Kd.scalar enc h1) (Rr := (Kd.scalar enc h1).K W) (w0 := w0) w0.heap.size hw s x t e z bytes ho ht hinfo hz Nat.one_pos hb0 v xs ys A ys.length c T_ (fun _ => False) hs hx HO hr (fun _ _ hk => hk) (fun _ hk => hk.elim) (fun _ _ => trivial) HB HB.size hl
    (fun v1 w1 ho' hb' hg' _ => h v1 w1 ho' hb' hg')
  rw [if_pos hw] at this ⊢
  exact this
end
theorem step_app_yy {ops : Array Oper} {o : Oper} {a : Act} {K : Act → World → Prop} {Q : Exit → Act → World → Prop} {E : Prop} {w0 W : World} (hgd : o.guard = none) (s x : Operand)
    (ho : o.op = .call { callee := .builtin .append, args := #[s, x], argTypes := #[40, 40] })
    (v : Value) (xs ys : List F) (u : Value) (hs : a.eval s = v) (hx : a.eval x = u)
    (HO : Ob w0 W v xs) (HR : Rb W u ys) (HB : Below w0.heap.size w0 W) (hl : xs.length + ys.length ≤ 1000000000)
    (h : ∀ v1 w1, Ob w0 w1 v1 (xs ++ ys) → Below w0.heap.size w0 w1 → W.grownBy w1 v.ownBlock → K (a.put o.dst v1) w1) :
    if Region.wanted o (yielded ops a.tmps) = true then Oper.wp Try.prog o a W K Q else E :=
  step_app_many hgd s x 40 5 (.int .u8 0) 1 ho Try.underlying40 infoB rfl Nat.one_pos v xs ys u hs hx HO HR HB (by omega) h
/-- A literal '[]int{..}' is a row of one's own. -/
theorem lit_ownI {w0 W : World} (l : List Int) (cs : Array Value) (h : cs.toList = l.map (Value.int .i64)) (n : Nat) (hn : n = l.length) (hm : n ≤ 9223372036854775807) (hB : w0.heap.size ≤ W.heap.size) :
    Oi w0 (W.alloc (.cells cs 3)) (.slice (some ⟨W.heap.size, 0, none⟩) n n) l := by
  subst hn
  have ho := World.ownsRow_lit (base := w0.heap.size) (e := 3) (size := 1) W cs l.length hB (by simpa [maxLen] using hm) (by rw [Nat.mul_one, ← Array.length_toList, h, List.length_map])
  rw [h] at ho
  exact Kd.R_of_own ho (fun _ _ => trivial)
theorem oi_own {w0 W : World} {v : Value} {xs : List Int} (h : Oi w0 W v xs) : W.ownsRow w0.heap.size 3 1 v xs.length (xs.map (Value.int .i64)) := Kd.own_of_R h
theorem own_oi {w0 W : World} {v : Value} {xs : List Int} (h : W.ownsRow w0.heap.size 3 1 v xs.length (xs.map (Value.int .i64))) : Oi w0 W v xs := Kd.R_of_own h (fun _ _ => trivial)
theorem Oi.form {w0 w : World} {v : Value} {l : List Int} (h : Oi w0 w v l) (hl : 0 < l.length) : ∃ g cap, v = .slice (some ⟨g, 0, none⟩) l.length cap ∧ w0.heap.size ≤ g ∧ g < w.heap.size := by
  obtain ⟨g, cap, hv, hb, hlt⟩ := (oi_own h).form hl
  exact ⟨g, cap, hv, hb, hlt⟩
theorem oi_lt {w0 w : World} {v : Value} {l : List Int} (h : Oi w0 w v l) {g : Nat} (hk : v.ownBlock = some g) : g < w.heap.size := by
  obtain ⟨cells, hc⟩ := own_typed (oi_own h) g hk
  exact blk_lt hc
theorem oi_grown {w0 w w1 : World} {g n c : Nat} {u : Option Nat} {l : List Int} (h : Oi w0 w (.slice (some ⟨g, 0, none⟩) n c) l) (hg : w.grownBy w1 u) (hne : u ≠ some g) : Oi w0 w1 (.slice (some ⟨g, 0, none⟩) n c) l :=
  own_oi (own_other (oi_own h) hg (.inr (by simpa [Value.ownBlock] using fun e => hne e.symm)))
/-- append(v, i), with where it may stand. -/
theorem app_int {ops : Array Oper} {rest : List Oper} {o : Oper} {a : Act} {Q : Exit → Act → World → Prop} {w0 W : World} (hgd : o.guard = none) (s x : Operand)
    (ho : o.op = .call { callee := .builtin .append, args := #[s, x], argTypes := #[36, 36] })
    (v : Value) (xs : List Int) (y : Int) (hs : a.eval s = v) (hx : a.eval x = .slice (some ⟨W.heap.size, 0, none⟩) 1 1)
    (HO : Oi w0 W v xs) (HB : Below w0.heap.size w0 W) (hl : xs.length ≤ 1000000)
    (h : ∀ v1 w1, Oi w0 w1 v1 (xs ++ [y]) → Below w0.heap.size w0 w1 → W.grownBy w1 v.ownBlock → (∀ g, g < W.heap.size → v.ownBlock ≠ some g → v1.ownBlock ≠ some g) → wpList Try.prog ops Q rest (a.put o.dst v1) w1) :
    wpList Try.prog ops Q (o :: rest) a (W.alloc (.cells #[.int .i64 y] 3)) := by
  refine Kd.R_append (Kd.int .i64) (w0 := w0) w0.heap.size hgd s x 36 3 (.int .i64 0) 8 ho Try.underlying36 infoI rfl Nat.one_pos (by decide) v xs y [.int .i64 y] T_ (fun _ => False) hs hx rfl (fun _ hk => hk.elim) (fun _ _ => trivial) HO HB HB.size (by omega) ?_
  intro v1 w1 ho' hb' hg' hat
  refine h v1 w1 ho' hb' hg' (fun g hg hne => ?_)
  rcases hat with e | ⟨b, e, hb⟩
  · rw [e]; exact hne
  · rw [e]
    intro e2
    injection e2 with e2
    omega
set_option maxRecDepth 100000 in
set_option maxHeartbeats 1600000 in
theorem cfInts_mask (c0 : Value) (q : Int → Bool) (v : Value) (l : List Int) (w : World) (hv : Ri w v l) (hstep : ∀ i wr, Below w.heap.size w wr → Calls Try.prog 213 #[.int .i64 i, c0] wr fun e w' => e = .returned (.bool (q i)) ∧ Below wr.heap.size wr w') :
   Calls Try.prog 212 #[v, .func (.func 213) #[] #[c0]] w fun e w' => e = .returned (.bool (l.any q)) ∧ Below w.heap.size w w' := by
  obtain ⟨A, c, rfl, hc, hr⟩ := hv
  have hl := ri_len hr
  have hv : Ri w (.slice A l.length c) l := ⟨A, c, rfl, hc, hr⟩
  replace hstep := Lib.hid hstep
  have hidx : Calls Try.prog 231 #[.slice A l.length c, .func (.func 213) #[] #[c0]] w fun e w' => (∃ z : Int, e = .returned (.int .i64 z) ∧ decide (0 ≤ z) = l.any q) ∧ Below w.heap.size w w' := by
    go_enter Try.func231, Try.ntmps231
    go_wp2
    go_loopw [5, 8] (fun _ i wr => ∃ k : Nat, k ≤ l.length ∧ i = .int .i64 k ∧ Hid ((l.take k).any q = false) ∧ Below w.heap.size w wr) (fun _ i _ => l.length - (intOf i).toNat)
    case atStart => exact ⟨0, by omega, rfl, Lib.hid (by simp), Below.refl _ _⟩
    case round =>
      obtain ⟨k, hk, rfl, hn, hB⟩ := hrel
      by_cases hlt : k < l.length
      · have hr := rk_C (hv.below hB)
        obtain ⟨ad, rfl, d0⟩ := ki_at hr k hlt
        have hm : Hid (l.getD k 0 ∈ l) := Lib.hid (by rw [List.getD_eq_getElem?_getD, List.getElem?_eq_getElem hlt]; exact List.getElem_mem hlt)
        have HS := Lib.hid (any_take_succ l q 0 k hlt)
        have HT : Hid (q (l.getD k 0) = true → l.any q = true) := Lib.hid (fun e => List.any_eq_true.2 ⟨_, hm.out, e⟩)
        generalize l.getD k 0 = r at *
        go_wp2_with fail
        refine (hstep.out r _ hB).mono ?_
        rintro e w5 ⟨rfl, h5⟩
        have hB := bt_ hB h5
        cases hq : q r with
        | true =>
          have h1 := HT.out hq
          rw [hq] at HS
          replace h1 := Lib.hid h1
          clear hq
          go_wp2
          go_ret
          exact ⟨⟨_, rfl, by rw [h1.out]; exact decide_eq_true (by omega)⟩, hB⟩
        | false =>
          have hn2 : Hid ((l.take (k + 1)).any q = false) := Lib.hid (by rw [HS.out, hn.out, hq]; rfl)
          clear hq HT HS
          go_wp2
          exact ⟨⟨k + 1, by omega, by go_num, hn2, hB⟩, by simp [intOf]; try omega⟩
      · obtain rfl : k = l.length := by omega
        have h1 := hn.out
        rw [List.take_length] at h1
        replace h1 := Lib.hid h1
        go_wp2
        go_ret
        exact ⟨⟨-1, rfl, by rw [h1.out]; rfl⟩, hB⟩
  go_enter Try.func212, Try.ntmps212
  go_wp2_with fail
  refine hidx.mono ?_
  rintro e w_ ⟨⟨z, rfl, hz⟩, hB⟩
  replace hz := Lib.hid hz
  go_wp2
  go_ret
  rw [← hz.out]
  exact ⟨rfl, hB⟩
set_option maxRecDepth 100000 in
set_option maxHeartbeats 1600000 in
theorem cfInts_reb (c0 : Value) (q : Int → Bool) (v : Value) (l : List Int) (w : World) (hv : Ri w v l) (hstep : ∀ i wr, Below w.heap.size w wr → Calls Try.prog 222 #[.int .i64 i, c0] wr fun e w' => e = .returned (.bool (q i)) ∧ Below wr.heap.size wr w') :
   Calls Try.prog 212 #[v, .func (.func 222) #[] #[c0]] w fun e w' => e = .returned (.bool (l.any q)) ∧ Below w.heap.size w w' := by
  obtain ⟨A, c, rfl, hc, hr⟩ := hv
  have hl := ri_len hr
  have hv : Ri w (.slice A l.length c) l := ⟨A, c, rfl, hc, hr⟩
  replace hstep := Lib.hid hstep
  have hidx : Calls Try.prog 231 #[.slice A l.length c, .func (.func 222) #[] #[c0]] w fun e w' => (∃ z : Int, e = .returned (.int .i64 z) ∧ decide (0 ≤ z) = l.any q) ∧ Below w.heap.size w w' := by
    go_enter Try.func231, Try.ntmps231
    go_wp2
    go_loopw [5, 8] (fun _ i wr => ∃ k : Nat, k ≤ l.length ∧ i = .int .i64 k ∧ Hid ((l.take k).any q = false) ∧ Below w.heap.size w wr) (fun _ i _ => l.length - (intOf i).toNat)
    case atStart => exact ⟨0, by omega, rfl, Lib.hid (by simp), Below.refl _ _⟩
    case round =>
      obtain ⟨k, hk, rfl, hn, hB⟩ := hrel
      by_cases hlt : k < l.length
      · have hr := rk_C (hv.below hB)
        obtain ⟨ad, rfl, d0⟩ := ki_at hr k hlt
        have hm : Hid (l.getD k 0 ∈ l) := Lib.hid (by rw [List.getD_eq_getElem?_getD, List.getElem?_eq_getElem hlt]; exact List.getElem_mem hlt)
        have HS := Lib.hid (any_take_succ l q 0 k hlt)
        have HT : Hid (q (l.getD k 0) = true → l.any q = true) := Lib.hid (fun e => List.any_eq_true.2 ⟨_, hm.out, e⟩)
        generalize l.getD k 0 = r at *
        go_wp2_with fail
        refine (hstep.out r _ hB).mono ?_
        rintro e w5 ⟨rfl, h5⟩
        have hB := bt_ hB h5
        cases hq : q r with
        | true =>
          have h1 := HT.out hq
          rw [hq] at HS
          replace h1 := Lib.hid h1
          clear hq
          go_wp2
          go_ret
          exact ⟨⟨_, rfl, by rw [h1.out]; exact decide_eq_true (by omega)⟩, hB⟩
        | false =>
          have hn2 : Hid ((l.take (k + 1)).any q = false) := Lib.hid (by rw [HS.out, hn.out, hq]; rfl)
          clear hq HT HS
          go_wp2
          exact ⟨⟨k + 1, by omega, by go_num, hn2, hB⟩, by simp [intOf]; try omega⟩
      · obtain rfl : k = l.length := by omega
        have h1 := hn.out
        rw [List.take_length] at h1
        replace h1 := Lib.hid h1
        go_wp2
        go_ret
        exact ⟨⟨-1, rfl, by rw [h1.out]; rfl⟩, hB⟩
  go_enter Try.func212, Try.ntmps212
  go_wp2_with fail
  refine hidx.mono ?_
  rintro e w_ ⟨⟨z, rfl, hz⟩, hB⟩
  replace hz := Lib.hid hz
  go_wp2
  go_ret
  rw [← hz.out]
  exact ⟨rfl, hB⟩
end Go.Proofs.Ytijeabhfddaoaaa
