/- stripe.Cut: the iterator; the walk. -/
import Derived.Test.YtijeabhfddaoaaaCu
import Derived.Test.YtijeabhfddaoaaaSt
import Derived.Test.YtijeabhfddaoaaaK6
import Derived.Test.YtijeabhfddaoaaaM11
import Derived.Test.YtijeabhfddaoaaaK9
import Derived.OwnWalkIn
import Derived.TacticsInMore
import Derived.LoopNIn
import Derived.LoopIn
namespace Go.Proofs.Ytijeabhfddaoaaa
set_option linter.unusedVariables false
open Go.RowKit Go.Proofs.YtijeabhfddaoaaaW.PrintWords Go.Proofs.Sh

theorem rb_right {w : World} {A : Option Addr} {c : Nat} {r : List F} (h : Rb w (.slice A r.length c) r) (m : Nat) (hm : m ≤ r.length) : Rb w (.slice (if c = m then A else A.map (·.add (m * 1))) (r.length - m) (c - m)) (r.drop m) := by
  have := Kd.C_drop (c := c) (rk_C h) hm (rk_cap h)
  exact ⟨_, c - m, by rw [List.length_drop]; rfl, by rw [List.length_drop]; have := rk_cap h; omega, this⟩
theorem rb_left {w : World} {A : Option Addr} {c : Nat} {r : List F} (h : Rb w (.slice A r.length c) r) (m : Nat) (hm : m ≤ r.length) : Rb w (.slice A m c) (r.take m) :=
  ⟨A, c, by rw [List.length_take, Nat.min_eq_left hm], by rw [List.length_take]; have := rk_cap h; omega, Kd.C_take (rk_C h) hm⟩
theorem Blk.set0 {w : World} {b : Nat} {v : Value} {t : TypeId} (v' : Value) (h : Blk w b #[v] t) : Blk (w.setCell ⟨b, 0, none⟩ v') b #[v'] t := by
  obtain ⟨hlt, hk⟩ := Array.getElem?_eq_some_iff.1 h
  show (w.heap.modify b _)[b]? = _
  rw [Array.getElem?_eq_getElem (by rw [Array.size_modify]; exact hlt), Array.getElem_modify_self, hk]
  rfl
theorem Blk.setNe {w : World} {b k : Nat} {cs : Array Value} {v : Value} {t : TypeId} (h : Blk w k cs t) (hne : k ≠ b) : Blk (w.setCell ⟨b, 0, none⟩ v) k cs t := (heap_set_ne hne).trans h
theorem Blk.fr {w : World} {b : Nat} {cs : Array Value} {t : TypeId} (h : Blk w b cs t) (j : Nat) : w.frozen? ⟨b, j, none⟩ = false := by
  have h' : w.heap[b]? = some (.cells cs t (0, 0)) := h
  simp [World.frozen?, h']
def lenAt (w : World) (b : Nat) : Nat := match w.cell? ⟨b, 0, none⟩ with | some (.slice _ n _) => n | _ => 0
theorem lenAt_of {w : World} {b : Nat} {A : Option Addr} {n c : Nat} {t : TypeId} (h : Blk w b #[.slice A n c] t) : lenAt w b = n := by
  unfold lenAt
  rw [h.one]
def partOf (L : Nat) (b : List F) (k : Nat) : List F := (b.drop (k * L)).take L
set_option maxRecDepth 100000 in
set_option maxHeartbeats 1600000 in
theorem parts_iter (w0 : World) (l bx bn L : Nat) (hL : 0 < L) (hL2 : L ≤ 256) (b : List F) (hb2 : b.length ≤ 240) (J : Nat → World → Prop) (hJs : ∀ k W v, J k W → J k (W.setCell ⟨bx, 0, none⟩ v)) (hne : bx ≠ bn)
    (hY : ∀ k u W1, J k W1 → k < F.nS L b.length → Rb w0 u (partOf L b k) → YieldAt Fence.wide 8 Try.prog l #[u] W1 fun e W' => e = .returned (.bool true) ∧ J (k + 1) W' ∧ Keep2 bx bn W1 W')
    (W : World) (h0 : J 0 W) (v : Value) (hv : Rb w0 v b) (hbx : Blk W bx #[v] 40) (hbn : Blk W bn #[.int .i64 (L : Int)] 3) :
    CallsIn Fence.wide 9 Try.prog 201 #[.func (.yield l) #[] #[], .pointer (some ⟨bx, 0, none⟩), .pointer (some ⟨bn, 0, none⟩)] W fun e W' => (∃ v, e = .returned v) ∧ J (F.nS L b.length) W' := by
  obtain ⟨i0, hi, hzz⟩ := Option.map_eq_some_iff.1 infoB
  simp only [Prod.mk.injEq] at hzz
  obtain ⟨_, hsz, _⟩ := hzz
  replace hi := Lib.hid hi
  replace hsz := Lib.hid hsz
  replace hY := Lib.hid hY
  replace hJs := Lib.hid hJs
  refine callsIn_of_wp Try.func201 rfl trivial ?_ rfl
  simp only [Try.ntmps201, List.size_toArray, List.length_cons, List.length_nil, Nat.reduceAdd, Nat.reduceSub, Array.replicate_succ, Array.replicate_zero, List.push_toArray, List.append_toArray, List.nil_append, List.cons_append]
  gi_wp2_with fail
  gi_loopw [4] (fun _ wr => ∃ (k : Nat) (v : Value), k ≤ F.nS L b.length ∧ J k wr ∧ Rb w0 v (b.drop (k * L)) ∧ Blk wr bx #[v] 40 ∧ Blk wr bn #[.int .i64 (L : Int)] 3) (fun _ wr => lenAt wr bx)
  case atStart => exact ⟨0, v, Nat.zero_le _, h0, by rw [Nat.zero_mul, List.drop_zero]; exact hv, hbx, hbn⟩
  case round =>
    clear h0 hv hbx hbn
    obtain ⟨k, v, hk, hJ, hv, hbx, hbn⟩ := hrel
    obtain ⟨A, c, rfl⟩ := rk_form hv
    have hlen := lenAt_of hbx
    have hx := hbx.one
    have hn := hbn.one
    by_cases hlt : k < F.nS L b.length
    · have hkl : k * L < b.length := (F.nS_lt L b.length k hL).1 hlt
      obtain ⟨r, hr⟩ : ∃ r, r = b.drop (k * L) := ⟨_, rfl⟩
      have hrl : r.length = b.length - k * L := by rw [hr, List.length_drop]
      rw [← hr] at hv hbx hlen hx
      have hr0 : 0 < r.length := by omega
      have hr1 : r.length ≤ 240 := by omega
      have tr : decide ((0 : Int) < (r.length : Int)) = true := decide_eq_true (by omega)
      have hstep : b.drop ((k + 1) * L) = r.drop L := by rw [hr, List.drop_drop, Nat.add_mul, Nat.one_mul]
      have hpart0 : partOf L b k = r.take L := by unfold partOf; rw [hr]
      clear hrl hr hkl
      by_cases g : r.length < L
      · have hnext : b.drop ((k + 1) * L) = r.drop r.length := by rw [hstep, List.drop_length]; exact List.drop_eq_nil_of_le (by omega)
        have hpart : partOf L b k = r.take r.length := by rw [hpart0, List.take_length]; exact List.take_of_length_le (by omega)
        clear hstep hpart0
        obtain ⟨A', hA'⟩ : ∃ A', A' = (if c = r.length then A else A.map (·.add (r.length * 1))) := ⟨_, rfl⟩
        obtain ⟨nn, hnn⟩ : ∃ nn, nn = r.length - r.length := ⟨_, rfl⟩
        obtain ⟨cc, hcc⟩ : ∃ cc, cc = c - r.length := ⟨_, rfl⟩
        have hcutA : ∀ W, (Instr.slice 40 (.slice A r.length c) none (some (.int .i64 ((r.length : Nat) : Int))) none).run Try.prog W = .ok (.slice A r.length c) W := fun W => by
          have := cut_to (P := Try.prog) 40 5 .i64 Try.underlying40 hi.out A r.length c ((r.length : Nat) : Int) (by omega) (by omega) (rk_cap hv) W
          rw [Int.toNat_natCast] at this
          exact this
        have hcutB : ∀ W, (Instr.slice 40 (.slice A r.length c) (some (.int .i64 ((r.length : Nat) : Int))) none none).run Try.prog W = .ok (.slice A' nn cc) W := fun W => by
          have := cut_from (P := Try.prog) 40 5 .i64 Try.underlying40 hi.out 1 hsz.out A r.length c ((r.length : Nat) : Int) (by omega) (by omega) W
          rw [Int.toNat_natCast, ← hA', ← hnn, ← hcc] at this
          exact this
        have hu := rb_left hv r.length (by omega)
        have hv2 := rb_right hv r.length (by omega)
        rw [← hA', ← hnext, ← hnn, ← hcc] at hv2
        have hnlt : Hid (nn < r.length) := Lib.hid (by omega)
        replace hnn := Lib.hid hnn
        replace hcc := Lib.hid hcc
        rw [← hpart] at hu
        obtain ⟨fn, tmps, assign, body, hy, hR⟩ := hY.out k _ wr hJ hlt hu
        replace hA' := Lib.hid hA'
        replace hv2 := Lib.hid hv2
        replace hnext := Lib.hid hnext
        replace hpart := Lib.hid hpart
        replace hR := Lib.hid hR
        have hks : k + 1 ≤ F.nS L b.length := hlt
        replace hlt := Lib.hid hlt
        gi_wp2
        refine hR.out.mono ?_
        rintro e W3 ⟨rfl, hJ3, hk3⟩
        have hbx3 : Blk W3 bx #[.slice A r.length c] 40 := (hk3 bx (.inl rfl)).trans hbx
        have hbn3 : Blk W3 bn #[.int .i64 (L : Int)] 3 := (hk3 bn (.inr rfl)).trans hbn
        have hx3 := hbx3.one
        have hf3 := hbx3.fr 0
        clear hx hn hy
        gi_wp2
        go_roundw
        case rel => exact ⟨k + 1, _, hks, hJs.out _ _ _ hJ3, hv2.out, hbx3.set0 _, hbn3.setNe (fun e => hne e.symm)⟩
        case measure => rw [lenAt_of (hbx3.set0 _), hlen]; exact hnlt.out
      · have hnext := hstep
        have hpart := hpart0
        clear hstep hpart0
        obtain ⟨A', hA'⟩ : ∃ A', A' = (if c = L then A else A.map (·.add (L * 1))) := ⟨_, rfl⟩
        obtain ⟨nn, hnn⟩ : ∃ nn, nn = r.length - L := ⟨_, rfl⟩
        obtain ⟨cc, hcc⟩ : ∃ cc, cc = c - L := ⟨_, rfl⟩
        have hcutA : ∀ W, (Instr.slice 40 (.slice A r.length c) none (some (.int .i64 ((L : Nat) : Int))) none).run Try.prog W = .ok (.slice A L c) W := fun W => by
          have := cut_to (P := Try.prog) 40 5 .i64 Try.underlying40 hi.out A r.length c ((L : Nat) : Int) (by omega) (by omega) (rk_cap hv) W
          rw [Int.toNat_natCast] at this
          exact this
        have hcutB : ∀ W, (Instr.slice 40 (.slice A r.length c) (some (.int .i64 ((L : Nat) : Int))) none none).run Try.prog W = .ok (.slice A' nn cc) W := fun W => by
          have := cut_from (P := Try.prog) 40 5 .i64 Try.underlying40 hi.out 1 hsz.out A r.length c ((L : Nat) : Int) (by omega) (by omega) W
          rw [Int.toNat_natCast, ← hA', ← hnn, ← hcc] at this
          exact this
        have hu := rb_left hv L (by omega)
        have hv2 := rb_right hv L (by omega)
        rw [← hA', ← hnext, ← hnn, ← hcc] at hv2
        have hnlt : Hid (nn < r.length) := Lib.hid (by omega)
        replace hnn := Lib.hid hnn
        replace hcc := Lib.hid hcc
        rw [← hpart] at hu
        obtain ⟨fn, tmps, assign, body, hy, hR⟩ := hY.out k _ wr hJ hlt hu
        replace hA' := Lib.hid hA'
        replace hv2 := Lib.hid hv2
        replace hnext := Lib.hid hnext
        replace hpart := Lib.hid hpart
        replace hR := Lib.hid hR
        have hks : k + 1 ≤ F.nS L b.length := hlt
        replace hlt := Lib.hid hlt
        gi_wp2
        refine hR.out.mono ?_
        rintro e W3 ⟨rfl, hJ3, hk3⟩
        have hbx3 : Blk W3 bx #[.slice A r.length c] 40 := (hk3 bx (.inl rfl)).trans hbx
        have hbn3 : Blk W3 bn #[.int .i64 (L : Int)] 3 := (hk3 bn (.inr rfl)).trans hbn
        have hx3 := hbx3.one
        have hf3 := hbx3.fr 0
        clear hx hn hy
        gi_wp2
        go_roundw
        case rel => exact ⟨k + 1, _, hks, hJs.out _ _ _ hJ3, hv2.out, hbx3.set0 _, hbn3.setNe (fun e => hne e.symm)⟩
        case measure => rw [lenAt_of (hbx3.set0 _), hlen]; exact hnlt.out
    · obtain rfl : k = F.nS L b.length := by omega
      have h0 : (b.drop (F.nS L b.length * L)).length = 0 := by
        rw [List.length_drop]
        have := F.nS_le L b.length hL
        omega
      rw [h0] at hx
      clear h0 hlen hv hbx
      gi_wp2
      go_end0
      exact ⟨⟨_, rfl⟩, hJ⟩
set_option maxRecDepth 100000 in
set_option maxHeartbeats 1600000 in
theorem parts_c (A : Option Addr) (m c : Nat) (n : Int) (w : World) : Calls Try.prog 164 #[.slice A m c, .int .i64 n] w fun e w' => e = .returned (.func (.func 201) #[] #[.pointer (some ⟨w.heap.size, 0, none⟩), .pointer (some ⟨w.heap.size + 1, 0, none⟩)]) ∧ w' = (w.alloc (.cells #[.slice A m c] 40)).alloc (.cells #[.int .i64 n] 3) := by
  go_enter Try.func164, Try.ntmps164
  go_wp2
  go_ret
  exact ⟨rfl, rfl⟩
set_option maxRecDepth 100000 in
set_option maxHeartbeats 1600000 in
theorem sCut_no (p : Pl) (h : ¬ p.Ok) (v : Value) (w : World) : Calls Try.prog 87 #[planV p, v] w fun e w' => e = .returned (.tuple #[.slice none 0 0, .int .i64 1]) ∧ Below w.heap.size w w' := by
  have HP := Blk.new w (planC p) 33
  have hB := below_alloc (Below.refl w.heap.size w) (.cells (planC p) 33)
  go_enter Try.func87, Try.ntmps87
  go_wp2_with fail
  refine (right_no p h _).mono ?_
  rintro e w1 ⟨rfl, h1⟩
  go_wp2
  go_ret2
  exact ⟨rfl, bt_ hB h1⟩
set_option maxRecDepth 100000 in
set_option maxHeartbeats 1600000 in
theorem sCut_big (p : Pl) (h : p.Ok) (v : Value) (b : List F) (w : World) (hv : Rb w v b) (hl : ¬ b.length ≤ 240) : Calls Try.prog 87 #[planV p, v] w fun e w' => e = .returned (.tuple #[.slice none 0 0, .int .i64 7]) ∧ Below w.heap.size w w' := by
  have HP := Blk.new w (planC p) 33
  have hB := below_alloc (Below.refl w.heap.size w) (.cells (planC p) 33)
  have t1 : decide ((240 : Int) < (b.length : Int)) = true := decide_eq_true (by omega)
  obtain ⟨A, c, rfl⟩ := rk_form hv
  go_enter Try.func87, Try.ntmps87
  go_wp2_with fail
  refine (right_yes p h _).mono ?_
  rintro e w1 ⟨rfl, h1⟩
  go_wp2
  go_ret2
  exact ⟨rfl, bt_ hB h1⟩
theorem wpList_move {P : Program} {ops : Array Oper} {rest : List Oper} {o : Oper} {a : Act} {Q : Exit → Act → World → Prop} {W : World} {x : Operand} (hg : o.guard = none) (ho : o.op = .move x) (h : wpList P ops Q rest (a.put o.dst (a.eval x)) W) : wpList P ops Q (o :: rest) a W := by
  refine wpList_plain hg fun K hK => ?_
  have := hK _ _ h
  unfold Oper.wp
  have e : (execOp a.eval o).run P W = .ok (.value (a.eval x)) W := by
    obtain ⟨d, op, t, p, af, g⟩ := o
    simp only at ho
    subst ho
    rfl
  rw [e]
  exact this
theorem row_of_part (L : Nat) (b : List F) (k : Nat) : (partOf L b k).take (min (partOf L b k).length (List.replicate L (0 : F)).length) ++ (List.replicate L (0 : F)).drop (min (partOf L b k).length (List.replicate L (0 : F)).length) = F.rowOf L b k := by
  have hl : (partOf L b k).length ≤ L := by unfold partOf; rw [List.length_take]; omega
  rw [← F.part_row L b k, List.length_replicate, Nat.min_eq_left hl, List.take_length, List.drop_replicate]
  rfl
theorem F.nS_le_len (L n : Nat) (h : 0 < L) : F.nS L n ≤ n := by
  refine Classical.byContradiction fun hc => ?_
  have := (F.nS_lt L n n h).1 (by omega)
  have h2 : n * 1 ≤ n * L := Nat.mul_le_mul_left n h
  omega
/-- Between the rounds. -/
structure CutAt (w : World) (base bo L : Nat) (p : Pl) (b : List F) (k : Nat) (W : World) : Prop where
  box : ∃ v, Blk W bo #[v] 66 ∧ kbb.R 40 W base T_ v (F.cutOf L b k)
  pl : Blk W w.heap.size (planC p) 33
  below : Below w.heap.size w W
  size : base ≤ W.heap.size
theorem CutAt.own {w : World} {base bo L : Nat} {p : Pl} {b : List F} (hbo : bo < base) (hw : w.heap.size < base) : OwnFrom base (CutAt w base bo L p b) := fun k A B row h hg hr => by
  obtain ⟨v, hv, ho⟩ := h.box
  have hne : ∀ r, row = some r → r ≠ bo ∧ r ≠ w.heap.size := fun r e => by have := (hr r e).1; omega
  refine ⟨⟨v, ?_, ?_⟩, ?_, ?_, ?_⟩
  · exact (hg.block bo hv.lt (fun e => (hne _ e.symm).1 rfl)).trans hv
  · refine Kd.R_mono (Kd.R_grown (Kd.R_bound ho) hg (fun k hk e => ?_)) (fun _ _ => trivial)
    obtain ⟨_, o, ho2, hc⟩ := hr k e.symm
    obtain ⟨_, _, _, q, _, cells, hq⟩ := hk
    rw [hq] at ho2
    cases ho2
    cases hc
  · exact (hg.block w.heap.size h.pl.lt (fun e => (hne _ e.symm).2 rfl)).trans h.pl
  · exact h.below.grown hg h.below.size (fun r e => by have := (hr r e).1; omega)
  · exact Nat.le_trans h.size hg.size
theorem CutAt.set {w : World} {base bo L bx : Nat} {p : Pl} {b : List F} (hbo : bo ≠ bx) (hw : w.heap.size < bx) (hx : bx < base) (k : Nat) (W : World) (u : Value) (h : CutAt w base bo L p b k W) : CutAt w base bo L p b k (W.setCell ⟨bx, 0, none⟩ u) := by
  obtain ⟨v, hv, ho⟩ := h.box
  refine ⟨⟨v, hv.setNe hbo, ?_⟩, h.pl.setNe (by omega), below_set h.below (by omega), ?_⟩
  · exact Kd.R_mono (Kd.R_far (Kd.R_bound ho) (p := ⟨bx, 0, none⟩) (fun k hk => by have := hk.2.1; show k ≠ bx; omega) u) (fun _ _ => trivial)
  · have := h.size
    show base ≤ (W.heap.modify _ _).size
    rw [Array.size_modify]
    exact this
set_option maxRecDepth 100000 in
set_option maxHeartbeats 3200000 in
theorem sCut_ok (p : Pl) (h : p.Ok) (v : Value) (b : List F) (w : World) (hv : Rb w v b) (hl : b.length ≤ 240) :
   Calls Try.prog 87 #[planV p, v] w fun e w' => ∃ z, e = .returned (.tuple #[z, .int .i64 0]) ∧ Obb w w' z (F.cutOf p.L.toNat b (F.nS p.L.toNat b.length)) ∧ Below w.heap.size w w' := by
  have HP := Blk.new w (planC p) 33
  have hB := below_alloc (Below.refl w.heap.size w) (.cells (planC p) 33)
  have t1 : decide ((240 : Int) < (b.length : Int)) = false := decide_eq_false (by omega)
  obtain ⟨L, eL⟩ : ∃ L : Nat, p.L = (L : Int) := ⟨p.L.toNat, by have := h.l; omega⟩
  have hLb : 1 ≤ L ∧ L ≤ 256 := by have := h.t; have := h.l; have := h.tl; have := h.wn; have := h.nl; omega
  have eL2 : p.L.toNat = L := by omega
  rw [eL2]
  obtain ⟨A, c, rfl⟩ := rk_form hv
  replace eL := Lib.hid eL
  clear eL2
  refine callsIn_wide.1 (callsIn_of_wp_marks (F := Fence.wide) (n := 11) Try.func87 rfl trivial (wpIn_wide.2 ?_) rfl)
  simp only [Try.ntmps87, List.size_toArray, List.length_cons, List.length_nil, Nat.reduceAdd, Nat.reduceSub, Array.replicate_succ, Array.replicate_zero, List.push_toArray, List.append_toArray, List.nil_append, List.cons_append]
  go_wp2_with fail
  refine (right_yes p h _).mono ?_
  rintro e w1 ⟨rfl, h1⟩
  replace HP := HP.below h1
  replace hB := bt_ hB h1
  clear h1
  have hwo : w.heap.size < w1.heap.size := HP.lt
  have hBo := alloc_b w1 (.cells #[.slice none 0 0] 66)
  have HBo := Blk.new w1 #[.slice none 0 0] 66
  replace HP := HP.alloc (.cells #[.slice none 0 0] 66)
  replace hB := bt_ hB hBo
  obtain ⟨c0, c1, c2, c3, c4, c5⟩ := cells6 HP
  rw [eL.out] at c2
  go_wp2_with fail
  generalize hW2 : w1.alloc (.cells #[.slice none 0 0] 66) = w2 at *
  refine (parts_c _ _ _ _ _).mono ?_
  rintro e w3 ⟨rfl, e3⟩
  have hbo : w1.heap.size < w2.heap.size := by rw [← hW2, World.size_alloc]; omega
  have hs3 : w3.heap.size = w2.heap.size + 2 := by rw [e3, World.size_alloc, World.size_alloc]
  have hBx : Blk w3 w2.heap.size #[.slice A b.length c] 40 := by rw [e3]; exact (Blk.new w2 _ _).alloc _
  have hBn : Blk w3 (w2.heap.size + 1) #[.int .i64 (L : Int)] 3 := by rw [e3]; exact Blk.new' _ _ _ (World.size_alloc _ _)
  have hB3 : Below w2.heap.size w2 w3 := by rw [e3]; exact below_alloc (below_alloc (Below.refl _ _) _) _
  have hwz : w.heap.size < w2.heap.size := HP.lt
  replace HP := HP.below hB3
  replace HBo := HBo.below hB3
  replace hB := bt_ hB hB3
  clear c0 c1 c2 c3 c4 c5 hBo hB3 hW2 e3
  generalize w1.heap.size = bo at *
  generalize hbx : w2.heap.size = bx at *
  have hat0 : CutAt w w3.heap.size bo L p b 0 w3 := ⟨⟨_, HBo, Kd.R_nil _ _ _ _ _⟩, HP, hB, Nat.le_refl _⟩
  clear HP HBo
  go_wp2_with fail
  refine wp_rangeBox (gf := 201) (lb := #[.pointer (some ⟨bx, 0, none⟩), .pointer (some ⟨bx + 1, 0, none⟩)]) rfl (fun args w => ?eg) rfl (F.nS L b.length) (fun k u => Rb w u (partOf L b k)) (CutAt w w3.heap.size bo L p b) bx (bx + 1) (by omega) (by omega) ?hiter (CutAt.own (by omega) (by omega)) (fun k W v hh => CutAt.set (by omega) (by omega) (by omega) k W v hh) hat0 (fun u t => (t.setIfInBounds 21 u).setIfInBounds 7 u) ?hassign ?hbody ?hdone
  case hiter =>
    intro l J' W hJs hJ' hY h0 hkeep
    refine parts_iter w l bx (bx + 1) L (by omega) (by omega) b hl J' hJs (by omega) hY W h0 _ hv ((hkeep _ (.inl rfl)).trans hBx) ((hkeep _ (.inr rfl)).trans hBn)
  case eg =>
    go_simp
  case hassign =>
    intro l u W K hK
    simp only [List.setIfInBounds_toArray, List.set_cons_zero, List.set_cons_succ] at hK
    simp only [List.zip_toArray, List.zip_cons_cons, List.zip_nil_right, List.foldl_toArray, List.foldl_cons, List.foldl_nil, List.setIfInBounds_toArray, List.set_cons_zero, List.set_cons_succ]
    refine region_round (fun _ _ e => by cases e) rfl ?_
    go_wp2
    exact hK
  case hbody =>
    intro l k u W hJ hk hu hsz
    simp only [List.setIfInBounds_toArray, List.set_cons_zero, List.set_cons_succ]
    obtain ⟨v, hv6, hO⟩ := hJ.box
    obtain ⟨c0, c1, c2, c3, c4, c5⟩ := cells6 hJ.pl
    rw [eL.out] at c2
    refine body3_round (fun _ _ e => by cases e.1) rfl rfl rfl ?_
    obtain ⟨Au, cu, rfl⟩ := rk_form hu
    have hBW := hJ.below
    have hsz3 := hJ.size
    have hplW := hJ.pl
    have hrow := Lib.hid (row_of_part L b k)
    have hpl : (partOf L b k).length ≤ L := by unfold partOf; rw [List.length_take]; omega
    have hsn := Lib.hid (F.cutOf_snoc L b k)
    have hcl : Hid ((F.cutOf L b k).length + 1 ≤ 1000) := Lib.hid (by rw [F.cutOf_len]; have := F.nS_le_len L b.length (by omega); omega)
    clear hJ
    generalize F.cutOf L b k = out at *
    go_wp2_with (first | ((with_reducible refine gate_dst (N := 24) rfl ?_); refine mk_len kb rfl (N := 24) rfl 40 5 _ _ rfl _ rfl rfl Try.underlying40 (.int .u8 0) 1 infoB rfl Nat.one_pos (by decide) (0 : F) rfl ?h0 ?hl (Below.refl W.heap.size W) ?_; (case h0 => omega); (case hl => omega); intro v1 w1 ho hb hg) | ((with_reducible refine gate_dst (N := 27) rfl ?_); refine halt ?_) | fail)
    refine ⟨?_⟩
    replace ho : Ob W w1 v1 _ := ho
    rw [Int.toNat_natCast] at ho
    have hm := hb
    clear hg c0 c1 c2 c3 c4 c5 hb
    have hrd := rk_C (hu.below (hBW.trans (hm.mono hBW.size)))
    refine Kd.R_copy (0 : F) (enc := bV) (h1 := fun _ => rfl) (w0 := W) (W).heap.size rfl (.tmp 25) (.tmp 26) 40 40 5 rfl Try.underlying40 infoC _ _ _ _ _ _ T_ rfl rfl ho hrd hm (hm).size ?_
    intro w1 ho hb hg
    replace ho : Ob W w1 v1 _ := ho
    rw [hrow.out] at ho
    obtain ⟨A1, n1, rfl⟩ := rk_form ho.rk
    obtain ⟨Av, nv, rfl⟩ := Kd.R_slice hO
    have hO2 := Kd.R_below hO hb
    have hU : kb.R 5 w1 w3.heap.size T_ _ (F.rowOf L b k) := Kd.R_lower ho hsz3
    have hv62 := hv6.below hb
    have hsz4 : w3.heap.size ≤ w1.heap.size := Nat.le_trans hsz3 hb.size
    have hx6 := hv62.one
    have hap := apart_types hU hO2 (by decide)
    have hbW1 := hb
    clear hg hm hrd ho hb hU hrow
    go_wp2_with (at_builtin; refine Kd.R_append kbb (w0 := w1) w3.heap.size rfl (.tmp 28) (.tmp 30) 66 40 (.slice none 0 0) 24 rfl Try.underlying66 infoR rfl Nat.one_pos (by decide) _ _ (F.rowOf L b k) _ T_ (fun q => T_ q ∧ some q ≠ (Value.slice Av out.length nv).ownBlock) rfl rfl ⟨_, rfl, hap⟩ (fun _ hk => hk) (fun _ _ => trivial) hO2 (Below.refl _ _) hsz4 ?hl ?_; (case hl => (have := hcl.out; omega)); intro v3 w4 hO3 hb3 hg3 hat3; obtain ⟨A3, n3, rfl⟩ := Kd.R_slice hO3; have hv64 : Blk w4 bo #[.slice Av out.length nv] 66 := (hb3.block bo (by omega)).trans hv62; have hx64 := hv64.one; have hf64 := hv64.fr 0)
    rw [← hs3]
    have k1 : KeepsOthers W w1 := ⟨hbW1.size, fun i o hi _ => (hbW1.block i (Array.getElem?_eq_some_iff.1 hi).1).trans hi⟩
    have k2 : KeepsOthers w1 w4 := KeepsOthers.of_grownBy hg3 (fun j o hj ho2 => by
      obtain ⟨cells, hc⟩ := Kd.R_typed hO2 j hj
      rw [hc] at ho2
      cases ho2
      rfl)
    refine ⟨((k1.trans k2).trans (KeepsOthers.setCell _ _ _)).from _, fun i hi => ?_, ?_⟩
    · have hib : i < w3.heap.size ∧ i ≠ bo := by rcases hi with hi | hi <;> exact ⟨by omega, by omega⟩
      refine (heap_set_ne hib.2).trans ((hg3.block i (by omega) (fun e => ?_)).trans (hbW1.block i (by omega)))
      have := Kd.R_base hO2 i e.symm
      omega
    · have hB4 := (hBW.trans (hbW1.mono hBW.size)).trans (hb3.mono (by omega))
      have hp4 : Blk w4 w.heap.size (planC p) 33 := (hb3.block w.heap.size (by omega)).trans (hplW.below hbW1)
      rw [show (out ++ [F.rowOf L b k]).length = out.length + 1 from by simp] at hO3
      refine ⟨⟨_, hv64.set0 _, ?_⟩, hp4.setNe (by omega), below_set hB4 (by omega), ?_⟩
      · rw [hsn.out]
        exact Kd.R_mono (Kd.R_far (Kd.R_bound hO3) (p := ⟨bo, 0, none⟩) (fun q hq => by have := hq.2.1; show q ≠ bo; omega) _) (fun _ _ => trivial)
      · show w3.heap.size ≤ (w4.heap.modify _ _).size
        rw [Array.size_modify]
        exact Nat.le_trans hsz4 hb3.size
  case hdone =>
    intro D W hD hJ hK
    obtain ⟨v, hv6, hO⟩ := hJ.box
    obtain ⟨Az, nz, rfl⟩ := Kd.R_slice hO
    have hx6 := hv6.one
    have hBW := hJ.below
    simp only []
    go_wp2
    have hD2 : w3.heap.size ≤ D := hD
    have hJ2 : CutAt w w3.heap.size bo L p b (F.nS L b.length) (W.putObj D (.deferred none)) := (CutAt.own (by omega) (by omega)).putObj _ hJ hD2 hK rfl
    refine ⟨by simp, .inl ⟨_, _, rfl, run_takeDeferred hK, ?_⟩⟩
    refine ⟨_, results_tmp2 rfl _ _ _, _, rfl, ?_, hJ2.below⟩
    have hO5 : kbb.R 40 (W.putObj D (.deferred none)) w3.heap.size T_ (.slice Az (F.cutOf L b (F.nS L b.length)).length nz) (F.cutOf L b (F.nS L b.length)) := Kd.R_mono (Kd.R_grown (Kd.R_bound hO) (grownBy_putObj' W D (.deferred none)) (fun k hk e => by
      cases e
      obtain ⟨_, _, _, q, _, cells, hq⟩ := hk
      rw [hK] at hq
      cases hq)) (fun _ _ => trivial)
    exact Kd.R_lower hO5 (by omega)
end Go.Proofs.Ytijeabhfddaoaaa
