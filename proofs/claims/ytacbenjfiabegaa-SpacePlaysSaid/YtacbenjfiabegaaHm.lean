/- The walks of choose's numbers: Push, Pop. -/
import Derived.Test.YtacbenjfiabegaaHn
namespace Go.Proofs.Ytacbenjfiabegaa
set_option linter.unusedVariables false
set_option linter.unusedSimpArgs false
open Go.RowKit Go.Proofs.YtacbenjfiabegaaW.PrintWords Go.Proofs.Sh

theorem oi_take {w0 w : World} {g n c : Nat} {l : List Int} (h : Oi w0 w (.slice (some ⟨g, 0, none⟩) n c) l) (k : Nat) (hk : k ≤ l.length) : Oi w0 w (.slice (some ⟨g, 0, none⟩) k c) (l.take k) := by
  have ho := oi_own h
  refine own_oi ?_
  obtain ⟨h1, h2⟩ := ho
  rw [List.length_take, Nat.min_eq_left hk]
  refine ⟨by simp; omega, ?_⟩
  rcases h2 with ⟨e, _⟩ | ⟨g', cap, cur, e, hb, hc, hn, hm, hs, ht⟩
  · cases e
  · injection e with e1 e2 e3
    injection e1 with e1
    injection e1 with e1
    subst e1 e3
    refine .inr ⟨g, c, cur, rfl, hb, hc, by omega, hm, hs, ?_⟩
    rw [Nat.mul_one] at ht ⊢
    rw [List.map_take, ← ht, List.take_take, Nat.min_eq_left (by omega)]
/-- append(v, i) of numbers. -/
theorem app_num {ops : Array Oper} {rest : List Oper} {o : Oper} {a : Act} {Q : Exit → Act → World → Prop} {w0 W : World} (hgd : o.guard = none) (s x : Operand)
    (ho : o.op = .call { callee := .builtin .append, args := #[s, x], argTypes := #[118, 118] })
    (v : Value) (xs : List Int) (y : Int) (hs : a.eval s = v) (hx : a.eval x = .slice (some ⟨W.heap.size, 0, none⟩) 1 1)
    (HO : Oi w0 W v xs) (HB : Below w0.heap.size w0 W) (hl : xs.length ≤ 1000000)
    (h : ∀ v1 w1, Oi w0 w1 v1 (xs ++ [y]) → Below w0.heap.size w0 w1 → W.grownBy w1 v.ownBlock → (∀ g, g < W.heap.size → v.ownBlock ≠ some g → v1.ownBlock ≠ some g) → wpList Try.prog ops Q rest (a.put o.dst v1) w1) :
    wpList Try.prog ops Q (o :: rest) a (W.alloc (.cells #[.int .i64 y] 3)) := by
  refine Kd.R_append (Kd.int .i64) (w0 := w0) w0.heap.size hgd s x 118 3 (.int .i64 0) 8 ho Try.underlying118 infoI rfl Nat.one_pos (by decide) v xs y [.int .i64 y] T_ (fun _ => False) hs hx rfl (fun _ hk => hk.elim) (fun _ _ => trivial) HO HB HB.size (by omega) ?_
  intro v1 w1 ho' hb' hg' hat
  refine h v1 w1 ho' hb' hg' (fun g hg hne => ?_)
  rcases hat with e | ⟨b, e, hb⟩
  · rw [e]; exact hne
  · rw [e]
    intro e2
    injection e2 with e2
    omega
theorem assert_int (x : Int) (w : World) : (Instr.typeAssert (.iface 3 (.int .i64 x)) 20 3 true).run Try.prog w = .ok (.tuple #[.int .i64 x, .bool true]) w := by
  unfold Instr.typeAssert
  simp [Sem.run_bind, run_underlying Try.underlying3]
/-- A heap of numbers: the box of a row of one's own. -/
structure Nm (w0 w : World) (b : Nat) (v : Value) (l : List Int) : Prop where
  base : w0.heap.size ≤ b
  box : Blk w b #[v] 118
  own : Oi w0 w v l
theorem Nm.ne {w0 w : World} {b : Nat} {v : Value} {l : List Int} (h : Nm w0 w b v l) : some b ≠ v.ownBlock := own_ne (oi_own h.own) h.box (by decide)
theorem oi_far {w0 w : World} {v : Value} {l : List Int} {g : Nat} (h : Oi w0 w v l) (hne : some g ≠ v.ownBlock) (j : Nat) (u : Value) : Oi w0 (w.setCell ⟨g, j, none⟩ u) v l := own_oi (own_setCell (oi_own h) (p := ⟨g, j, none⟩) hne u)
/-- What is kept: every row of one's own but the heap's. -/
def Kp (w0 w w' : World) (v v' : Value) : Prop := ∀ u m, Oi w0 w u m → NeRow v u → Oi w0 w' u m ∧ NeRow v' u
theorem Kp.refl (w0 w : World) (v : Value) : Kp w0 w w v v := fun _ _ h h2 => ⟨h, h2⟩
theorem Kp.trans {w0 w w1 w2 : World} {v v1 v2 : Value} (a : Kp w0 w w1 v v1) (b : Kp w0 w1 w2 v1 v2) : Kp w0 w w2 v v2 := fun u m h h2 => by
  obtain ⟨h3, h4⟩ := a u m h h2
  exact b u m h3 h4
theorem Kp.below {w0 w w' : World} {v : Value} (h : Below w.heap.size w w') : Kp w0 w w' v v := fun _ _ h1 h2 => ⟨Own.below h1 h, h2⟩
theorem Kp.grown {w0 w w' : World} {v : Value} (h : w.grownBy w' v.ownBlock) : Kp w0 w w' v v := fun _ _ h1 h2 => ⟨own_oi (own_other (oi_own h1) h (ne_other h2)), h2⟩
theorem Kp.box {w0 w : World} {v v' : Value} {b : Nat} {cs : Array Value} (h : Blk w b cs 118) (u : Value) (hv : v'.ownBlock = v.ownBlock) : Kp w0 w (w.setCell ⟨b, 0, none⟩ u) v v' := fun _ _ h1 h2 => ⟨oi_far h1 (own_ne (oi_own h1) h (by decide)) 0 u, fun k hk => h2 k (by rw [← hv]; exact hk)⟩
set_option maxRecDepth 100000 in
set_option maxHeartbeats 1600000 in
theorem nPush_c (b : Nat) (v : Value) (l : List Int) (x : Int) (w0 w : World) (hN : Nm w0 w b v l) (hB : Below w0.heap.size w0 w) (hl : l.length ≤ 1000000) :
   Calls Try.prog 130 #[.pointer (some ⟨b, 0, none⟩), .iface 3 (.int .i64 x)] w fun e w' => e = .returned (.tuple #[]) ∧ ∃ v', Nm w0 w' b v' (l ++ [x]) ∧ Below w0.heap.size w0 w' ∧ Kp w0 w w' v v' := by
  have c0 := hN.box.one
  obtain ⟨A, c, rfl⟩ := rk_form (Own.rk hN.own)
  have hne := hN.ne
  have hta := assert_int x
  go_enter Try.func130, Try.ntmps130
  go_wp2_with (at_builtin; refine app_num rfl (.tmp 15) (.tmp 17) rfl _ l x rfl rfl hN.own hB hl ?_; intro v1 w1 ho hb hg hf; have hbx := blk_grown hN.box hg hne; have z1 := blk_cell hbx 0; have z2 := blk_frozen hbx 0; obtain ⟨A1, n1, rfl⟩ := rk_form (Own.rk ho); have z1 : w1.cell? ⟨b, 0, none⟩ = some (.slice A l.length c) := z1)
  go_end0
  have ho2 : Oi w0 w1 (.slice A1 (l.length + 1) n1) (l ++ [x]) := by rw [show (l ++ [x]).length = l.length + 1 by simp] at ho; exact ho
  have hN1 : Blk w1 b #[.slice A l.length c] 118 := hbx
  have hk1 : Kp w0 w w1 (.slice A l.length c) (.slice A1 (l.length + 1) n1) := fun u m h1 h2 => by
    refine ⟨own_oi (own_other (oi_own h1) hg (ne_other h2)), fun k hk hk2 => ?_⟩
    have hu := oi_lt h1 hk2
    exact hf k hu (fun e => h2 k e hk2) (by rw [show (l ++ [x]).length = l.length + 1 by simp]; exact hk)
  exact ⟨rfl, _, ⟨hN.base, hN1.put _, oi_far ho2 (own_ne (oi_own ho2) hN1 (by decide)) 0 _⟩, below_set hb hN.base, hk1.trans (Kp.box hN1 _ rfl)⟩
set_option maxRecDepth 100000 in
set_option maxHeartbeats 1600000 in
theorem nPop_c (b g n c : Nat) (l : List Int) (w0 w : World) (hN : Nm w0 w b (.slice (some ⟨g, 0, none⟩) (n + 1) c) l) (hB : Below w0.heap.size w0 w) (hl : l.length = n + 1) :
   Calls Try.prog 129 #[.pointer (some ⟨b, 0, none⟩)] w fun e w' => e = .returned (.iface 3 (.int .i64 (l.getD n 0))) ∧ Nm w0 w' b (.slice (some ⟨g, 0, none⟩) n c) (l.take n) ∧ Below w0.heap.size w0 w' ∧ Kp w0 w w' (.slice (some ⟨g, 0, none⟩) (n + 1) c) (.slice (some ⟨g, 0, none⟩) n c) := by
  have c0 := hN.box.one
  have z2 := blk_frozen hN.box 0
  obtain ⟨cn, _⟩ := Oi.at hN.own n (by omega)
  have hcap : n + 1 ≤ c := by
    obtain ⟨A, c', e, h, _⟩ := Own.rk hN.own
    injection e with e1 e2 e3
    omega
  have hn9 : n < 9223372036854775807 := by
    obtain ⟨A, c', e, h, hr⟩ := Own.rk hN.own
    have := hr.2.1
    omega
  have hne := hN.ne
  generalize l.getD n 0 = y at *
  have t1 : IntKind.i64.wrap (((n + 1 : Nat) : Int) - 1) = (n : Int) := by rw [wrapI _ (by omega) (by omega)]; omega
  go_enter Try.func129, Try.ntmps129
  go_wp2
  go_ret
  exact ⟨rfl, ⟨hN.base, hN.box.put _, oi_far (oi_take hN.own n (by omega)) hne 0 _⟩, below_set hB hN.base, Kp.box hN.box _ rfl⟩
end Go.Proofs.Ytacbenjfiabegaa
