/- The walks of space's runs: Push, Pop. -/
import Derived.Test.YtacbenjfiabegaaSa
import Derived.Test.YtacbenjfiabegaaFu
import Derived.Deep.AppendLies
namespace Go.Proofs.Ytacbenjfiabegaa
set_option linter.unusedVariables false
set_option linter.unusedSimpArgs false
open Go.RowKit Go.Proofs.YtacbenjfiabegaaW.PrintWords Go.Proofs.Sh

theorem infoP : (Try.prog.info? 108).map (fun i => (i.zero, i.size, i.bytes)) = some (some (.agg #[.int .i64 0, .int .i64 0]), 2, 16) := by kernel_rfl
theorem op_take {w0 w : World} {g n c : Nat} {l : List (Int × Int)} (h : Op w0 w (.slice (some ⟨g, 0, none⟩) n c) l) (k : Nat) (hk : k ≤ l.length) : Op w0 w (.slice (some ⟨g, 0, none⟩) k c) (l.take k) := by
  have ho := op_own h
  refine own_op ?_
  obtain ⟨h1, h2⟩ := ho
  rw [List.length_take, Nat.min_eq_left hk]
  refine ⟨by rw [flat_len, List.length_take]; omega, ?_⟩
  rcases h2 with ⟨e, _⟩ | ⟨g', cap, cur, e, hb, hc, hn, hm, hs, ht⟩
  · cases e
  · injection e with e1 e2 e3
    injection e1 with e1
    injection e1 with e1
    subst e1 e3
    refine .inr ⟨g, c, cur, rfl, hb, hc, by omega, hm, hs, ?_⟩
    rw [← flat_take, ← ht, List.take_take, Nat.min_eq_left (by omega)]
theorem lit_ownP {w0 W : World} (l : List (Int × Int)) (cs : Array Value) (h : cs.toList = flat l) (n : Nat) (hn : n = l.length) (hm : n ≤ 9223372036854775807) (hB : w0.heap.size ≤ W.heap.size) :
    Op w0 (W.alloc (.cells cs 108)) (.slice (some ⟨W.heap.size, 0, none⟩) n n) l := by
  subst hn
  have ho := World.ownsRow_lit (base := w0.heap.size) (e := 108) (size := 2) W cs l.length hB (by simpa [maxLen] using hm) (by rw [← Array.length_toList, h, flat_len])
  rw [h] at ho
  exact own_op ho
def isRL (y : Int × Int) : Value → World → Prop := fun v W => Rk kp W v [y]
theorem last_RL (y : Int × Int) : Lasts (isRL y) := fun _ _ _ h hB => Rk.below h hB
theorem run_cells {w : World} {A : Option Addr} {n c : Nat} {y : Int × Int} (h : Rk kp w (.slice A n c) [y]) : n = 1 ∧ ∃ ad, A = some ad ∧ ∀ j u, (pC y)[j]? = some u → w.cell? (ad.add j) = some u := by
  obtain ⟨A', c', e, _, hr⟩ := h
  injection e with e1 e2 e3
  subst e1
  obtain ⟨ad, rfl, hc⟩ := hr.2.2 (by simp)
  obtain ⟨cs, _, h1, h2⟩ := hc 0 y rfl
  have h1 : cs = pC y := h1
  subst h1
  refine ⟨e2, ad, rfl, fun j u hj => ?_⟩
  have := h2 j u hj
  rwa [Nat.zero_mul, Nat.zero_add] at this
theorem wp_app_r {o : Oper} {a : Act} {K : Act → World → Prop} {Q : Exit → Act → World → Prop} {w0 W : World} (s x : Operand) (ho : o.op = .call { callee := .builtin .append, args := #[s, x], argTypes := #[110, 110] })
    (v : Value) (xs : List (Int × Int)) (u : Value) (y : Int × Int) (hs : a.eval s = v) (hx : a.eval x = u) (HO : Op w0 W v xs) (HU : isRL y u W) (HB : Below w0.heap.size w0 W) (hl : xs.length ≤ 1000000)
    (h : ∀ v1 w1, Op w0 w1 v1 (xs ++ [y]) → Below w0.heap.size w0 w1 → W.grownBy w1 v.ownBlock → K (a.put o.dst v1) w1) : o.wp Try.prog a W K Q := by
  obtain ⟨A, c, rfl⟩ := rk_form HU
  obtain ⟨_, ad, rfl, hnews⟩ := run_cells HU
  obtain ⟨i0, hi, hzz⟩ := Option.map_eq_some_iff.1 infoP
  simp only [Prod.mk.injEq] at hzz
  obtain ⟨hz0, hz1, hz2⟩ := hzz
  refine wp_append_lies W s x 110 ho w0.heap.size 108 i0 (.agg #[.int .i64 0, .int .i64 0]) 2 16 Try.underlying110 hi hz0 hz1 hz2 rfl (by decide) v xs.length (flat xs) hs (op_own HO) ad 1 c (pC y) hx rfl hnews
    (fun u hu => by simp only [pC, List.mem_cons, List.not_mem_nil, or_false] at hu; rcases hu with rfl | rfl <;> rfl) (by decide) (by unfold maxLen; omega) (by omega) HB.size _ rfl ?_
  intro g cap w1 hown hg hat _
  refine h _ w1 (own_op ?_) (HB.grown hg HB.size (fun k hk => (own_base (op_own HO) k hk))) hg
  rw [List.length_append, flat_app]
  exact hown
theorem assert_run (p : Int × Int) (w : World) : (Instr.typeAssert (.iface 108 (.agg #[.int .i64 p.1, .int .i64 p.2])) 20 108 true).run Try.prog w = .ok (.tuple #[.agg #[.int .i64 p.1, .int .i64 p.2], .bool true]) w := by
  unfold Instr.typeAssert
  simp [Sem.run_bind, run_underlying Try.underlying108]
/-- A heap of runs: the box of a row of one's own. -/
structure Nr (w0 w : World) (b : Nat) (v : Value) (l : List (Int × Int)) : Prop where
  base : w0.heap.size ≤ b
  box : Blk w b #[v] 110
  own : Op w0 w v l
theorem Nr.ne {w0 w : World} {b : Nat} {v : Value} {l : List (Int × Int)} (h : Nr w0 w b v l) : some b ≠ v.ownBlock := own_ne (op_own h.own) h.box (by decide)
theorem op_far {w0 w : World} {v : Value} {l : List (Int × Int)} {g : Nat} (h : Op w0 w v l) (hne : some g ≠ v.ownBlock) (j : Nat) (u : Value) : Op w0 (w.setCell ⟨g, j, none⟩ u) v l := own_op (own_setCell (op_own h) (p := ⟨g, j, none⟩) hne u)
theorem Nr.drawn {w0 w w' : World} {b : Nat} {v : Value} {l : List (Int × Int)} (h : Nr w0 w b v l) (hd : Below w.heap.size w w') : Nr w0 w' b v l := ⟨h.base, h.box.below hd, Own.below h.own hd⟩
/-- What is kept: every block but the heap's box and row. -/
def Kq (w0 w w' : World) (v v' : Value) : Prop := ∀ k cs t, Blk w k cs t → some k ≠ v.ownBlock → t ≠ 110 → Blk w' k cs t ∧ some k ≠ v'.ownBlock
theorem Kq.refl (w0 w : World) (v : Value) : Kq w0 w w v v := fun _ _ _ h h2 _ => ⟨h, h2⟩
theorem Kq.trans {w0 w w1 w2 : World} {v v1 v2 : Value} (a : Kq w0 w w1 v v1) (b : Kq w0 w1 w2 v1 v2) : Kq w0 w w2 v v2 := fun k cs t h h2 h3 => by
  obtain ⟨q1, q2⟩ := a k cs t h h2 h3
  exact b k cs t q1 q2 h3
theorem Kq.below {w0 w w' : World} {v : Value} (h : Below w.heap.size w w') : Kq w0 w w' v v := fun _ _ _ h1 h2 _ => ⟨h1.below h, h2⟩
theorem Kq.grown {w0 w w' : World} {v : Value} (h : w.grownBy w' v.ownBlock) : Kq w0 w w' v v := fun _ _ _ h1 h2 _ => ⟨blk_grown h1 h h2, h2⟩
theorem Kq.box {w0 w : World} {v v' : Value} {b : Nat} {cs : Array Value} (h : Blk w b cs 110) (u : Value) (hv : v'.ownBlock = v.ownBlock) : Kq w0 w (w.setCell ⟨b, 0, none⟩ u) v v' := fun k cs' t h1 h2 h3 => by
  refine ⟨h1.far (fun e => h3 ?_) 0 u, by rw [hv]; exact h2⟩
  subst e
  have h : w.heap[k]? = _ := h
  have h1 : w.heap[k]? = _ := h1
  rw [h] at h1
  injection h1 with h1
  injection h1 with _ h1
  exact h1.symm
set_option maxRecDepth 100000 in
set_option maxHeartbeats 1600000 in
theorem sPush_c (b : Nat) (v : Value) (l : List (Int × Int)) (y1 y2 : Int) (w0 w : World) (hN : Nr w0 w b v l) (hB : Below w0.heap.size w0 w) (hl : l.length ≤ 1000000) :
   Calls Try.prog 125 #[.pointer (some ⟨b, 0, none⟩), .iface 108 (.agg #[.int .i64 y1, .int .i64 y2])] w fun e w' => e = .returned (.tuple #[]) ∧ ∃ v', Nr w0 w' b v' (l ++ [(y1, y2)]) ∧ Below w0.heap.size w0 w' := by
  have hta := assert_run (y1, y2)
  go_enter Try.func125, Try.ntmps125
  go_upto_region 1 with fail
  have hy := Blk.new w #[.int .i64 y1, .int .i64 y2] 108
  have h1 := below_alloc (Below.refl w.heap.size w) (.cells #[.int .i64 y1, .int .i64 y2] 108)
  have hN := hN.drawn h1
  have hB := bt_ hB h1
  generalize w.alloc (.cells #[.int .i64 y1, .int .i64 y2] 108) = w1 at *
  have e0 : w1.cell? ⟨w.heap.size, 0, none⟩ = some (.int .i64 y1) := hy.cell 0 _ rfl
  have e1 : w1.cell? ⟨w.heap.size, 1, none⟩ = some (.int .i64 y2) := hy.cell 1 _ rfl
  generalize w.heap.size = wy at *
  have c0 := hN.box.one
  obtain ⟨A, c, rfl⟩ := rk_form (Own.rk hN.own)
  have hne := hN.ne
  clear hta h1 hy
  go_upto_region 2 with fail
  have hB0 := hB
  clear hB c0
  refine wp_region_one 6 [.v (.pointer (some ⟨b, 0, none⟩)), .v (.pointer (some ⟨b, 0, none⟩)), .v (.pointer (some ⟨b, 0, none⟩)), .v (.slice A l.length c), .v (.agg #[.int .i64 y1, .int .i64 y2]), .p (isRL (y1, y2)), .p (fun _ _ => True), .v (.pointer (some ⟨b, 0, none⟩)), .p (fun _ _ => True)] [([], none), ([], none), ([(1, some 13)], none), ([(2, some 14)], none), ([], none), ([(4, some 16)], none), ([(3, some 15), (5, some 17)], none), ([(0, some 12)], none), ([(6, some 18), (7, some 19)], none)] [(0, some 12), (1, some 13), (2, some 14), (3, some 15), (4, some 16), (5, some 17), (6, some 18), (7, some 19), (8, none)] (fun _ _ => True) (fun v W => Op w0 W v (l ++ [(y1, y2)]) ∧ Below w0.heap.size w0 W ∧ Blk W b #[.slice A l.length c] 110) (fun W => ∃ v', Nr w0 W b v' (l ++ [(y1, y2)]) ∧ Below w0.heap.size w0 W) (by kernel_rfl) (by kernel_rfl) (by kernel_rfl) (by kernel_rfl) (by kernel_rfl) (by kernel_rfl) (by exact ⟨trivial, trivial, trivial, trivial, trivial, last_RL _, (fun _ _ _ _ _ => trivial), trivial, (fun _ _ _ _ _ => trivial), trivial⟩) (show 6 < 9 by decide) rfl rfl ⟨.inl ⟨by decide, ?s0⟩, .inr ⟨_, rfl, ?l0⟩, .inl ⟨by decide, ?s1⟩, .inr ⟨_, rfl, ?l1⟩, .inl ⟨by decide, ?s2⟩, .inl (by decide), .inl ⟨by decide, ?s3⟩, .inl (by decide), .inl ⟨by decide, ?s4⟩, .inl (by decide), .inl ⟨by decide, ?s5⟩, .inl (by decide), .inr (.inl ⟨rfl, ?ap⟩), .inl (by decide), .inl ⟨by decide, ?s7⟩, .inr ⟨_, rfl, ?l7⟩, .inr (.inr ⟨rfl, ?sto⟩), .inl (by decide), trivial⟩ ?hQ
  case s0 =>
    intro W hB K hK
    simp only [tellK, Act.put, List.setIfInBounds_toArray, List.set_cons_zero, List.set_cons_succ] at hK ⊢
    refine tell_do rfl ?_
    have q0 := (hN.drawn hB).box.one; have e0 := pw_cell_below hB e0; have e1 := pw_cell_below hB e1
    go_simp
    exact hK _ (Below.refl _ _)
  case s1 =>
    intro W hB K hK
    simp only [tellK, Act.put, List.setIfInBounds_toArray, List.set_cons_zero, List.set_cons_succ] at hK ⊢
    refine tell_do rfl ?_
    have q0 := (hN.drawn hB).box.one; have e0 := pw_cell_below hB e0; have e1 := pw_cell_below hB e1
    go_simp
    exact hK _ (Below.refl _ _)
  case s2 =>
    intro W hB K hK
    simp only [tellK, Act.put, List.setIfInBounds_toArray, List.set_cons_zero, List.set_cons_succ] at hK ⊢
    refine tell_do rfl ?_
    have q0 := (hN.drawn hB).box.one; have e0 := pw_cell_below hB e0; have e1 := pw_cell_below hB e1
    go_simp
    exact hK _ (Below.refl _ _)
  case s3 =>
    intro W hB K hK
    simp only [tellK, Act.put, List.setIfInBounds_toArray, List.set_cons_zero, List.set_cons_succ] at hK ⊢
    refine tell_do rfl ?_
    have q0 := (hN.drawn hB).box.one; have e0 := pw_cell_below hB e0; have e1 := pw_cell_below hB e1
    go_simp
    exact hK _ (Below.refl _ _)
  case s4 =>
    intro W hB K hK
    simp only [tellK, Act.put, List.setIfInBounds_toArray, List.set_cons_zero, List.set_cons_succ] at hK ⊢
    refine tell_do rfl ?_
    have q0 := (hN.drawn hB).box.one; have e0 := pw_cell_below hB e0; have e1 := pw_cell_below hB e1
    go_simp
    exact hK _ (Below.refl _ _)
  case s5 =>
    intro W hB K hK
    simp only [tellK, Act.put, List.setIfInBounds_toArray, List.set_cons_zero, List.set_cons_succ] at hK ⊢
    refine tell_do rfl ?_
    have q0 := (hN.drawn hB).box.one; have e0 := pw_cell_below hB e0; have e1 := pw_cell_below hB e1
    go_simp
    exact hK _ _ (Own.rk (lit_ownP (w0 := W) [(y1, y2)] #[.int .i64 y1, .int .i64 y2] rfl 1 rfl (by decide) (Nat.le_refl _))) (alloc_b _ _)
  case s7 =>
    intro W hB K hK
    simp only [tellK, Act.put, List.setIfInBounds_toArray, List.set_cons_zero, List.set_cons_succ] at hK ⊢
    refine tell_do rfl ?_
    have q0 := (hN.drawn hB).box.one; have e0 := pw_cell_below hB e0; have e1 := pw_cell_below hB e1
    go_simp
    exact hK _ (Below.refl _ _)
  case l0 =>
    intro v W hM
    simp only [tellGo]
    intro K hK
    simp only [Act.put, List.setIfInBounds_toArray, List.set_cons_zero, List.set_cons_succ] at hK ⊢
    refine tell_do rfl ?_
    obtain ⟨ho9, hb9, hbx9⟩ := hM; have q0 := hbx9.one
    go_simp
    exact hK _ _ ⟨rfl, rfl⟩
  case l1 =>
    intro v W hM
    simp only [tellGo]
    intro K hK
    simp only [Act.put, List.setIfInBounds_toArray, List.set_cons_zero, List.set_cons_succ] at hK ⊢
    refine tell_do rfl ?_
    obtain ⟨ho9, hb9, hbx9⟩ := hM; have q0 := hbx9.one
    go_simp
    exact hK _ _ ⟨rfl, rfl⟩
  case l7 =>
    intro v W hM
    simp only [bareL, List.map_cons, List.map_nil, List.set_cons_zero, List.set_cons_succ, tellGo, sayAt, List.getD_cons_zero, List.getD_cons_succ]
    intro K hK
    simp only [Act.put, List.setIfInBounds_toArray, List.set_cons_zero, List.set_cons_succ] at hK ⊢
    refine tell_do rfl ?_
    obtain ⟨ho9, hb9, hbx9⟩ := hM; have q0 := hbx9.one
    go_simp
    exact hK _ _ ⟨rfl, rfl⟩
  case ap =>
    intro W hB v5 h5 K hK
    simp only [Act.put, List.setIfInBounds_toArray, List.set_cons_zero, List.set_cons_succ] at hK ⊢
    refine tell_do rfl ?_
    have q0 := (hN.drawn hB).box.one; have e0 := pw_cell_below hB e0; have e1 := pw_cell_below hB e1
    refine wp_app_r (w0 := w0) (.tmp 15) (.tmp 17) (by rfl) _ l v5 (y1, y2) (by rfl) (by rfl) (hN.drawn hB).own h5 (bt_ hB0 hB) hl ?_
    intro va wa ho1 hb1 hg1
    exact hK _ _ ⟨ho1, hb1, blk_grown (hN.drawn hB).box hg1 hne⟩
  case sto =>
    intro v W hM
    simp only [bareL, List.map_cons, List.map_nil, List.set_cons_zero, List.set_cons_succ, tellGo, sayAt, List.getD_cons_zero, List.getD_cons_succ]
    intro K hK
    simp only [Act.put, List.setIfInBounds_toArray, List.set_cons_zero, List.set_cons_succ] at hK ⊢
    refine tell_do rfl ?_
    obtain ⟨ho9, hb9, hbx9⟩ := hM
    obtain ⟨A1, n1, rfl⟩ := rk_form (Own.rk ho9)
    generalize (l ++ [(y1, y2)]).length = ln at *
    have q0 := hbx9.one
    have q1 := blk_frozen hbx9 0
    go_simp
    exact hK undef _ ⟨_, ⟨hN.base, hbx9.put _, op_far ho9 (own_ne (op_own ho9) hbx9 (by decide)) 0 _⟩, below_set hb9 hN.base⟩
  case hQ =>
    intro v W hP
    simp only [bareL, List.map_cons, List.map_nil, List.set_cons_zero, List.set_cons_succ, tellGo, sayAt, List.getD_cons_zero, List.getD_cons_succ]
    intro v5 _ v8 _
    simp only [Act.put, List.setIfInBounds_toArray, List.set_cons_zero, List.set_cons_succ]
    go_wp2
    go_end0
    exact ⟨rfl, hP⟩
set_option maxRecDepth 100000 in
set_option maxHeartbeats 1600000 in
theorem sPop_c (b g n c : Nat) (l : List (Int × Int)) (w0 w : World) (hN : Nr w0 w b (.slice (some ⟨g, 0, none⟩) (n + 1) c) l) (hB : Below w0.heap.size w0 w) (hl : l.length = n + 1) :
   Calls Try.prog 124 #[.pointer (some ⟨b, 0, none⟩)] w fun e w' => e = .returned (.iface 108 (.agg #[.int .i64 (l.getD n dp).1, .int .i64 (l.getD n dp).2])) ∧ Nr w0 w' b (.slice (some ⟨g, 0, none⟩) n c) (l.take n) ∧ Below w0.heap.size w0 w' ∧ Kq w0 w w' (.slice (some ⟨g, 0, none⟩) (n + 1) c) (.slice (some ⟨g, 0, none⟩) n c) := by
  have c0 := hN.box.one
  obtain ⟨cn, cn2, _⟩ := Op.at hN.own n (by omega)
  have hcap : n + 1 ≤ c := by
    obtain ⟨A, c', e, h, _⟩ := Own.rk hN.own
    injection e with e1 e2 e3
    omega
  have hn9 : n < 9223372036854775807 := by
    obtain ⟨A, c', e, h, hr⟩ := Own.rk hN.own
    have := hr.2.1
    omega
  generalize l.getD n dp = y at *
  obtain ⟨y1, y2⟩ := y
  have t1 : IntKind.i64.wrap (((n + 1 : Nat) : Int) - 1) = (n : Int) := by rw [wrapI _ (by omega) (by omega)]; omega
  go_enter Try.func124, Try.ntmps124
  go_upto_region 3 with fail
  have hy := Blk.new w #[.int .i64 y1, .int .i64 y2] 108
  have h1 := below_alloc (Below.refl w.heap.size w) (.cells #[.int .i64 y1, .int .i64 y2] 108)
  have hN := hN.drawn h1
  have hB := bt_ hB h1
  have hby : b < w.heap.size := blk_lt (show w.heap[b]? = _ from (by assumption : Nr w0 w b (.slice (some ⟨g, 0, none⟩) (n + 1) c) l).box)
  have hk1 : Kq w0 w _ (.slice (some ⟨g, 0, none⟩) (n + 1) c) (.slice (some ⟨g, 0, none⟩) (n + 1) c) := Kq.below h1
  generalize w.alloc (.cells #[.int .i64 y1, .int .i64 y2] 108) = w1 at *
  have e0 : w1.cell? ⟨w.heap.size, 0, none⟩ = some (.int .i64 y1) := hy.cell 0 _ rfl
  have e1 : w1.cell? ⟨w.heap.size, 1, none⟩ = some (.int .i64 y2) := hy.cell 1 _ rfl
  generalize w.heap.size = wy at *
  have c1 := hN.box.one
  have z2 := blk_frozen hN.box 0
  have hne := hN.ne
  have hy2 := hy.far (show wy ≠ b by omega) 0 (.slice (some ⟨g, 0, none⟩) n c)
  have e2 : (w1.setCell ⟨b, 0, none⟩ (.slice (some ⟨g, 0, none⟩) n c)).cell? ⟨wy, 0, none⟩ = some (.int .i64 y1) := hy2.cell 0 _ rfl
  have e3 : (w1.setCell ⟨b, 0, none⟩ (.slice (some ⟨g, 0, none⟩) n c)).cell? ⟨wy, 1, none⟩ = some (.int .i64 y2) := hy2.cell 1 _ rfl
  clear hy hy2 h1 cn cn2 c0
  go_wp2
  go_ret
  exact ⟨rfl, ⟨hN.base, hN.box.put _, op_far (op_take hN.own n (by omega)) hne 0 _⟩, below_set hB hN.base, hk1.trans (Kq.box hN.box _ rfl)⟩
end Go.Proofs.Ytacbenjfiabegaa
