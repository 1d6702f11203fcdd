/- The walk of settle.Settle. -/
import Derived.Test.YtacbenjfiabegaaUd
import Derived.Test.YtacbenjfiabegaaK9
import Derived.Test.YtacbenjfiabegaaFs
import Derived.Test.YtacbenjfiabegaaFw
import Derived.Deep.RegionHeld3
namespace Go.Proofs.Ytacbenjfiabegaa
set_option linter.unusedVariables false
set_option linter.unusedSimpArgs false
open Go.RowKit Go.Proofs.YtacbenjfiabegaaW.PrintWords Go.Proofs.Sh

abbrev vdC (en cl : Bool) (v : Vl) (mk : Int) (hv : Value) : Array Value := #[.bool en, .bool cl, .bool v.p, .int .i64 v.a, .int .i64 v.e, .int .i64 v.z, .int .i64 mk, hv]
abbrev noV : Vl := ⟨false, 0, 0, 0⟩
/-- A literal of one func, of two. -/
def isGn1 (f : Value) : Value → World → Prop := fun v W => ∃ g, v = .slice (some ⟨g, 0, none⟩) 1 1 ∧ W.cell? ⟨g, 0, none⟩ = some f
theorem last_Gn1 (f : Value) : Lasts (isGn1 f) := fun _ _ _ ⟨g, h1, h2⟩ hB => ⟨g, h1, pw_cell_below hB h2⟩
def isGn2 (f f2 : Value) : Value → World → Prop := fun v W => ∃ g, v = .slice (some ⟨g, 0, none⟩) 2 2 ∧ W.cell? ⟨g, 0, none⟩ = some f ∧ W.cell? ⟨g, 1, none⟩ = some f2
theorem last_Gn2 (f f2 : Value) : Lasts (isGn2 f f2) := fun _ _ _ ⟨g, h1, h2, h3⟩ hB => ⟨g, h1, pw_cell_below hB h2, pw_cell_below hB h3⟩
/-- What counts, by what several say: the mark and the value. -/
def settleM (l : List Ms) : Int × Vl := l.foldl (fun s x => if (mval x).2 && decide (s.1 < x.m) then (x.m, (mval x).1) else s) (0, noV)
theorem settleM_snoc (l : List Ms) (k : Nat) (h : k < l.length) : settleM (l.take (k + 1)) = if (mval (l.getD k zM)).2 && decide ((settleM (l.take k)).1 < (l.getD k zM).m) then ((l.getD k zM).m, (mval (l.getD k zM)).1) else settleM (l.take k) := by
  unfold settleM
  rw [take_snoc' l k zM h, List.foldl_append]
  rfl
def hs14 (v : Vl) (l : List Ms) : List Int := holdL v (l.filter (fun x => x.k == 14))
theorem hs14_snoc (v : Vl) (l : List Ms) (k : Nat) (h : k < l.length) : hs14 v (l.take (k + 1)) = hs14 v (l.take k) ++ if (l.getD k zM).k == 14 then holdL v [l.getD k zM] else [] := by
  unfold hs14 holdL
  rw [take_snoc' l k zM h, List.filter_append, List.filter_append, List.map_append]
  congr 1
  generalize l.getD k zM = x
  cases hp : (x.k == 14)
  · have e : [x].filter (fun x => x.k == 14) = [] := by simp [List.filter, hp]
    rw [e]; rfl
  · have e : [x].filter (fun x => x.k == 14) = [x] := by simp [List.filter, hp]
    rw [e]; rfl
theorem run_lit_msg (x : Ms) (w : World) : (Instr.buildSlice 49 1 #[(0, mV x)]).run Try.prog w = .ok (.slice (some ⟨w.heap.size, 0, none⟩) 1 1) (w.alloc (.cells (mC x) 56)) := by
  kernel_rfl
/-- A literal of one message. -/
theorem wpList_lit_msg {ops : Array Oper} {rest : List Oper} {o : Oper} {a : Act} {w : World} {Q : Exit → Act → World → Prop} (hgd : o.guard = none) (y : Operand) (ho : o.op = .buildSlice 49 1 #[(0, y)])
    (x : Ms) (hx : a.eval y = mV x)
    (h : wpList Try.prog ops Q rest (a.put o.dst (.slice (some ⟨w.heap.size, 0, none⟩) 1 1)) (w.alloc (.cells (mC x) 56))) : wpList Try.prog ops Q (o :: rest) a w :=
  wpList_plain hgd fun _ hK => by
    unfold Oper.wp execOp
    simp only [ho, hx, List.map_toArray, List.map_cons, List.map_nil, Sem.run_bind, Sem.run_pure, Result.andThen_ok, run_lit_msg x w]
    exact hK _ _ h
theorem oi_far {w0 w : World} {v : Value} {l : List Int} {g : Nat} {cs : Array Value} {t : TypeId} (h : Oi w0 w v l) (hb : Blk w g cs t) (ht : 3 ≠ t) (j : Nat) (u : Value) : Oi w0 (w.setCell ⟨g, j, none⟩ u) v l :=
  own_oi (own_setCell (oi_own h) (p := ⟨g, j, none⟩) (own_ne (oi_own h) hb ht) u)
theorem hs14_le (v : Vl) (l : List Ms) : (hs14 v l).length ≤ l.length := Nat.le_trans (holdL_le v _) (List.length_filter_le _ _)
theorem lit_ms (w : World) (x : Ms) (h : Rd w x) (hok : OkM x) : Ml (w.alloc (.cells (mC x) 56)) (.slice (some ⟨w.heap.size, 0, none⟩) 1 1) [x] := by
  refine ⟨⟨some ⟨w.heap.size, 0, none⟩, 1, rfl, Nat.le_refl _, ⟨rfl, by simp, fun _ => ⟨_, rfl, fun j p hj => ?_⟩⟩⟩, fun y hy => ?_⟩
  · have hj0 : j = 0 := by
      have := (List.getElem?_eq_some_iff.1 hj).1
      simp at this
      exact this
    subst hj0
    obtain rfl : x = p := by simpa using hj
    refine ⟨(mC x).toList, rfl, ⟨rfl, hok⟩, fun i u hu => ?_⟩
    have hb := Blk.new w (mC x) 56
    have := blk_cell hb i
    rw [show ((⟨w.heap.size, 0, none⟩ : Addr).add (0 * km.sz + i)) = ⟨w.heap.size, i, none⟩ by rw [Nat.zero_mul, Nat.zero_add, add_plain], this]
    simpa using hu
  · obtain rfl : y = x := by simpa using hy
    exact h.below (below_alloc (Below.refl _ _) _)
set_option maxRecDepth 100000 in
set_option maxHeartbeats 12800000 in
theorem Settle_c (p : Pl) (h : p.Ok) (u : Value) (l : List Ms) (w : World) (hv : Ml w u l) (hl : l.length ≤ 1000) :
   Calls Try.prog 25 #[planV p, u] w fun e w' => ∃ z, e = .returned (.agg (vdC (decide (p.N - p.W + 1 ≤ (cntP soundB l : Nat))) ((cntP leftB l == 0) && (((settleM l).1 == 0) || decide (p.W ≤ (cntP (msB (settleM l).1) l : Nat)))) (settleM l).2 (settleM l).1 z)) ∧ Ri w' z (holdL (settleM l).2 (l.filter (fun x => x.k == 14))) ∧ Below w.heap.size w w' := by
  obtain ⟨A, c, rfl⟩ := rk_form hv.row
  have hvv := Lib.hid hv
  have HP := Blk.new w (planC p) 48
  have hB := below_alloc (Below.refl w.heap.size w) (.cells (planC p) 48)
  have hz1 : (w.alloc (.cells (planC p) 48)).heap.size = w.heap.size + 1 := World.size_alloc _ _
  go_enter Try.func25, Try.ntmps25
  go_upto_region 2 with fail
  generalize w.alloc (.cells (planC p) 48) = wa at *
  have hR := Blk.new' wa (vdC false false noV 0 (.slice none 0 0)) 58 hz1
  have hb1 := below_alloc (Below.refl wa.heap.size wa) (.cells (vdC false false noV 0 (.slice none 0 0)) 58)
  have hz2 : (wa.alloc (.cells (vdC false false noV 0 (.slice none 0 0)) 58)).heap.size = w.heap.size + 1 + 1 := by rw [World.size_alloc, hz1]
  have HP := HP.below hb1
  have hB := bt_ hB hb1
  generalize wa.alloc (.cells (vdC false false noV 0 (.slice none 0 0)) 58) = wb at *
  have hV := Blk.new' wb (vdC false false noV 0 (.slice none 0 0)) 58 hz2
  have hb2 := below_alloc (Below.refl wb.heap.size wb) (.cells (vdC false false noV 0 (.slice none 0 0)) 58)
  have HP := HP.below hb2
  have hR := hR.below hb2
  have hB := bt_ hB hb2
  generalize wb.alloc (.cells (vdC false false noV 0 (.slice none 0 0)) 58) = wc at *
  obtain ⟨c0, c1, c2, c3, c4, c5⟩ := cells6 HP
  go_wp2_with fail
  refine (right_yes p h _).mono ?_
  rintro e wd ⟨rfl, h1⟩
  replace HP := HP.below h1
  replace hR := hR.below h1
  replace hV := hV.below h1
  replace hB := bt_ hB h1
  clear h1 c0 c1 c2 c3 c4 c5 hz1 hz2 hb1 hb2 hv
  generalize hbv : w.heap.size + 1 + 1 = bv at *
  generalize hbr : w.heap.size + 1 = br at *
  have hid1 : Hid (w.heap.size < br ∧ br < bv) := Lib.hid (by omega)
  clear hbv hbr
  go_wp2_with fail
  go_loopw [20] (fun i wr => ∃ k : Nat, k ≤ l.length ∧ i = .int .i64 k ∧ Blk wr bv (vdC false false (settleM (l.take k)).2 (settleM (l.take k)).1 (.slice none 0 0)) 58 ∧ Blk wr br (vdC false false noV 0 (.slice none 0 0)) 58 ∧ Blk wr w.heap.size (planC p) 48 ∧ Below w.heap.size w wr) (fun i _ => l.length - (intOf i).toNat)
  case atStart => exact ⟨0, by omega, rfl, hV, hR, HP, hB⟩
  case round =>
    clear hV hR HP hB
    obtain ⟨k, hk, rfl, hV, hR, HP, hB⟩ := hrel
    have hv := hvv.out
    by_cases hlt : k < l.length
    · have hsn := settleM_snoc l k hlt
      obtain ⟨ad, rfl, hok, hc⟩ := msg_at (hv.below hB).row k hlt
      have hrd := (hv.rd (l.getD k zM) (by rw [List.getD_eq_getElem?_getD, List.getElem?_eq_getElem hlt]; exact List.getElem_mem _)).below hB
      skip
      generalize l.getD k zM = x at *
      have hz := Blk.new wr zeroC 56
      have hbx := boxM_blk wr x
      have hbb := boxM_below wr x
      replace hrd := hrd.below hbb
      have hB2 := bt_ hB hbb
      have hc2 := Lib.hid hc
      clear hc
      go_upto_region 7 with (first
        | ((with_reducible refine gate_dst (N := 23) rfl ?_); refine wpList_load_msg rfl (.tmp 22) rfl (ad.add (k * 13)) rfl x hc2.out ?_)
        | (refine wpList_store_row rfl 56 (.tmp 7) (.tmp 23) rfl wr.heap.size (mC x) rfl rfl 56 zeroC hz (by kernel_rfl) rfl hok.all ?_; change wpList _ _ _ _ _ (boxM wr x))
        | fail)
      replace hV := hV.below hbb
      replace hR := hR.below hbb
      replace HP := HP.below hbb
      generalize boxM wr x = W2 at *
      generalize wr.heap.size = bx at *
      generalize hst : settleM (l.take k) = st at *
      obtain ⟨mk, v0⟩ := st
      simp only at hV hsn
      have hval := value_c x W2
      clear hrd hbb hB hz hc2 hv
      go_wp2_with (first
        | ((with_reducible refine gate_dst (N := 25) rfl ?_); refine wpList_load_row rfl 56 (.tmp 7) rfl bx rfl 56 (mC x) (0, 0) _ hbx Try.underlying56 rfl (by kernel_rfl) ?_)
        | fail)
      refine hval.mono ?_
      generalize mval x = o at *
      obtain ⟨v9, ok⟩ := o
      rintro e w5 ⟨rfl, h5⟩
      replace hV := hV.below h5
      replace hR := hR.below h5
      replace HP := HP.below h5
      have hX := hbx.below h5
      have hB5 := bt_ hB2 h5
      clear hbx hB2 h5 hval
      have h8 := Blk.new w5 (valC v9) 33
      have h85 := below_alloc (Below.refl w5.heap.size w5) (.cells (valC v9) 33)
      have hb8 : Hid (w5.heap.size ≠ bv) := Lib.hid (by have := blk_lt (show w5.heap[bv]? = _ from hV); omega)
      replace hV := hV.below h85
      replace hR := hR.below h85
      replace HP := HP.below h85
      replace hX := hX.below h85
      have hB6 := bt_ hB5 h85
      clear hB5 h85
      go_upto_region 8 with fail
      generalize w5.alloc (.cells (valC v9) 33) = w6 at *
      generalize w5.heap.size = b8 at *
      have hne8 : b8 ≠ bv := hb8.out
      have hbw := hid1.out
      obtain ⟨_, _, _, _, m7, _⟩ := mcell hX
      have v6 : w6.cell? ⟨bv, 6, none⟩ = some (.int .i64 mk) := hV.cell 6 _ rfl
      cases ok with
      | false =>
        have hs2 := Lib.hid (show settleM (l.take (k + 1)) = (mk, v0) by rw [hsn]; simp)
        clear hsn hX h8
        go_wp2
        exact ⟨⟨k + 1, by omega, by go_num, by rw [hs2.out]; exact hV, hR, HP, hB6⟩, by simp [intOf]; omega⟩
      | true =>
        by_cases hmk : mk < x.m
        · have tm : decide (mk < x.m) = true := decide_eq_true hmk
          have hs2 := Lib.hid (show settleM (l.take (k + 1)) = (x.m, v9) by rw [hsn, tm]; simp)
          clear hsn hmk
          go_upto_region 9 with fail
          have hv6 := hV
          refine wp_region_seq 4 [2] [.pointer (some ⟨bx, 7, none⟩), .int .i64 x.m, valV v9, .pointer (some ⟨bv, 6, none⟩), undef, .pointer (some ⟨bv, 2, none⟩), undef] [([], none), ([(0, some 37)], none), ([], none), ([], none), ([(1, some 38), (3, some 40)], none), ([], none), ([(2, some 39), (5, some 41)], none)] [(0, some 37), (1, some 38), (2, some 39), (3, some 40), (4, none), (5, some 41), (6, none)] (fun W => ∃ W', Below w6.heap.size w6 W' ∧ W = W'.setCell ⟨bv, 6, none⟩ (.int .i64 x.m)) (fun W => ∃ W', Below w6.heap.size w6 W' ∧ W = ((((W'.setCell ⟨bv, 6, none⟩ (.int .i64 x.m)).setCell ⟨bv, 2, none⟩ (.bool v9.p)).setCell ⟨bv, 3, none⟩ (.int .i64 v9.a)).setCell ⟨bv, 4, none⟩ (.int .i64 v9.e)).setCell ⟨bv, 5, none⟩ (.int .i64 v9.z)) (by kernel_rfl) (by kernel_rfl) (by kernel_rfl) (by kernel_rfl) (by kernel_rfl) (by kernel_rfl) (by kernel_rfl) (by kernel_rfl) ⟨.inr (.inr ⟨by decide, .inr ?s0, .inl (by decide)⟩), .inr (.inr ⟨by decide, .inr ?s1, .inl (by decide)⟩), .inr (.inr ⟨by decide, .inr ?s2, .inr ?l2⟩), .inr (.inr ⟨by decide, .inr ?s3, .inl (by decide)⟩), .inl ⟨rfl, ?one⟩, .inr (.inr ⟨by decide, .inl (by decide), .inr ?l5⟩), .inr (.inl ⟨rfl, ?two⟩), trivial⟩ ?hQ
          case s0 =>
            intro W hB K hK
            simp only [putC, List.getD_cons_zero, List.getD_cons_succ, Act.put, List.setIfInBounds_toArray, List.set_cons_zero, List.set_cons_succ] at hK ⊢
            refine tell_do rfl ?_
            obtain ⟨_, _, _, _, q7, _⟩ := mcell (hX.below hB); have p0 : W.cell? ⟨b8, 0, none⟩ = some (.bool v9.p) := (h8.below hB).cell 0 _ rfl; have p1 : W.cell? ⟨b8, 1, none⟩ = some (.int .i64 v9.a) := (h8.below hB).cell 1 _ rfl; have p2 : W.cell? ⟨b8, 2, none⟩ = some (.int .i64 v9.e) := (h8.below hB).cell 2 _ rfl; have p3 : W.cell? ⟨b8, 3, none⟩ = some (.int .i64 v9.z) := (h8.below hB).cell 3 _ rfl
            go_simp
            exact hK _ _ ⟨rfl, rfl⟩
          case s1 =>
            intro W hB K hK
            simp only [putC, List.getD_cons_zero, List.getD_cons_succ, Act.put, List.setIfInBounds_toArray, List.set_cons_zero, List.set_cons_succ] at hK ⊢
            refine tell_do rfl ?_
            obtain ⟨_, _, _, _, q7, _⟩ := mcell (hX.below hB); have p0 : W.cell? ⟨b8, 0, none⟩ = some (.bool v9.p) := (h8.below hB).cell 0 _ rfl; have p1 : W.cell? ⟨b8, 1, none⟩ = some (.int .i64 v9.a) := (h8.below hB).cell 1 _ rfl; have p2 : W.cell? ⟨b8, 2, none⟩ = some (.int .i64 v9.e) := (h8.below hB).cell 2 _ rfl; have p3 : W.cell? ⟨b8, 3, none⟩ = some (.int .i64 v9.z) := (h8.below hB).cell 3 _ rfl
            go_simp
            exact hK _ _ ⟨rfl, rfl⟩
          case s2 =>
            intro W hB K hK
            simp only [putC, List.getD_cons_zero, List.getD_cons_succ, Act.put, List.setIfInBounds_toArray, List.set_cons_zero, List.set_cons_succ] at hK ⊢
            refine tell_do rfl ?_
            obtain ⟨_, _, _, _, q7, _⟩ := mcell (hX.below hB); have p0 : W.cell? ⟨b8, 0, none⟩ = some (.bool v9.p) := (h8.below hB).cell 0 _ rfl; have p1 : W.cell? ⟨b8, 1, none⟩ = some (.int .i64 v9.a) := (h8.below hB).cell 1 _ rfl; have p2 : W.cell? ⟨b8, 2, none⟩ = some (.int .i64 v9.e) := (h8.below hB).cell 2 _ rfl; have p3 : W.cell? ⟨b8, 3, none⟩ = some (.int .i64 v9.z) := (h8.below hB).cell 3 _ rfl
            go_simp
            exact hK _ _ ⟨rfl, rfl⟩
          case s3 =>
            intro W hB K hK
            simp only [putC, List.getD_cons_zero, List.getD_cons_succ, Act.put, List.setIfInBounds_toArray, List.set_cons_zero, List.set_cons_succ] at hK ⊢
            refine tell_do rfl ?_
            obtain ⟨_, _, _, _, q7, _⟩ := mcell (hX.below hB); have p0 : W.cell? ⟨b8, 0, none⟩ = some (.bool v9.p) := (h8.below hB).cell 0 _ rfl; have p1 : W.cell? ⟨b8, 1, none⟩ = some (.int .i64 v9.a) := (h8.below hB).cell 1 _ rfl; have p2 : W.cell? ⟨b8, 2, none⟩ = some (.int .i64 v9.e) := (h8.below hB).cell 2 _ rfl; have p3 : W.cell? ⟨b8, 3, none⟩ = some (.int .i64 v9.z) := (h8.below hB).cell 3 _ rfl
            go_simp
            exact hK _ _ ⟨rfl, rfl⟩
          case l2 =>
            intro W hM K hK
            simp only [putC, List.getD_cons_zero, List.getD_cons_succ, Act.put, List.setIfInBounds_toArray, List.set_cons_zero, List.set_cons_succ] at hK ⊢
            refine tell_do rfl ?_
            obtain ⟨W', hB, rfl⟩ := hM; have h9 := (h8.below hB).far hne8 6 (.int .i64 x.m); have p0 : (W'.setCell ⟨bv, 6, none⟩ (.int .i64 x.m)).cell? ⟨b8, 0, none⟩ = some (.bool v9.p) := h9.cell 0 _ rfl; have p1 : (W'.setCell ⟨bv, 6, none⟩ (.int .i64 x.m)).cell? ⟨b8, 1, none⟩ = some (.int .i64 v9.a) := h9.cell 1 _ rfl; have p2 : (W'.setCell ⟨bv, 6, none⟩ (.int .i64 x.m)).cell? ⟨b8, 2, none⟩ = some (.int .i64 v9.e) := h9.cell 2 _ rfl; have p3 : (W'.setCell ⟨bv, 6, none⟩ (.int .i64 x.m)).cell? ⟨b8, 3, none⟩ = some (.int .i64 v9.z) := h9.cell 3 _ rfl
            go_simp
            exact hK _ _ ⟨rfl, rfl⟩
          case l5 =>
            intro W hM K hK
            simp only [putC, List.getD_cons_zero, List.getD_cons_succ, Act.put, List.setIfInBounds_toArray, List.set_cons_zero, List.set_cons_succ] at hK ⊢
            refine tell_do rfl ?_
            obtain ⟨W', hB, rfl⟩ := hM; have h9 := (h8.below hB).far hne8 6 (.int .i64 x.m); have p0 : (W'.setCell ⟨bv, 6, none⟩ (.int .i64 x.m)).cell? ⟨b8, 0, none⟩ = some (.bool v9.p) := h9.cell 0 _ rfl; have p1 : (W'.setCell ⟨bv, 6, none⟩ (.int .i64 x.m)).cell? ⟨b8, 1, none⟩ = some (.int .i64 v9.a) := h9.cell 1 _ rfl; have p2 : (W'.setCell ⟨bv, 6, none⟩ (.int .i64 x.m)).cell? ⟨b8, 2, none⟩ = some (.int .i64 v9.e) := h9.cell 2 _ rfl; have p3 : (W'.setCell ⟨bv, 6, none⟩ (.int .i64 x.m)).cell? ⟨b8, 3, none⟩ = some (.int .i64 v9.z) := h9.cell 3 _ rfl
            go_simp
            exact hK _ _ ⟨rfl, rfl⟩
          case one =>
            intro W hB K hK
            simp only [putC, List.getD_cons_zero, List.getD_cons_succ, Act.put, List.setIfInBounds_toArray, List.set_cons_zero, List.set_cons_succ] at hK ⊢
            refine tell_do rfl ?_
            have q6 : W.cell? ⟨bv, 6, none⟩ = some (.int .i64 mk) := (hv6.below hB).cell 6 _ rfl
            have qf := blk_frozen (hv6.below hB)
            go_simp
            exact hK undef _ ⟨W, hB, rfl⟩
          case two =>
            intro W hM K hK
            simp only [putC, List.getD_cons_zero, List.getD_cons_succ, Act.put, List.setIfInBounds_toArray, List.set_cons_zero, List.set_cons_succ] at hK ⊢
            refine tell_do rfl ?_
            obtain ⟨W', hB, rfl⟩ := hM
            have a0 := hv6.below hB
            have a1 := blk_set a0 6 (.int .i64 x.m)
            have a2 := blk_set a1 2 (.bool v9.p)
            have a3 := blk_set a2 3 (.int .i64 v9.a)
            have a4 := blk_set a3 4 (.int .i64 v9.e)
            have k1 := blk_cell a1 2
            have k2 := blk_cell a2 3
            have k3 := blk_cell a3 4
            have k4 := blk_cell a4 5
            have f1 := blk_frozen a1
            have f2 := blk_frozen a2
            have f3 := blk_frozen a3
            have f4 := blk_frozen a4
            clear a0 a1 a2 a3 a4
            go_simp
            exact hK undef _ ⟨W', hB, rfl⟩
          case hQ =>
            intro W hM
            simp only [putC, List.getD_cons_zero, List.getD_cons_succ, Act.put, List.setIfInBounds_toArray, List.set_cons_zero, List.set_cons_succ]
            obtain ⟨W', hB', rfl⟩ := hM
            have a5 : Blk _ bv (vdC false false v9 x.m (.slice none 0 0)) 58 := blk_set (blk_set (blk_set (blk_set (blk_set (hV.below hB') 6 (.int .i64 x.m)) 2 (.bool v9.p)) 3 (.int .i64 v9.a)) 4 (.int .i64 v9.e)) 5 (.int .i64 v9.z)
            have hnr : br ≠ bv := by omega
            have hnp : w.heap.size ≠ bv := by omega
            have r5 := (((((hR.below hB').far hnr 6 (.int .i64 x.m)).far hnr 2 (.bool v9.p)).far hnr 3 (.int .i64 v9.a)).far hnr 4 (.int .i64 v9.e)).far hnr 5 (.int .i64 v9.z)
            have p5 := (((((HP.below hB').far hnp 6 (.int .i64 x.m)).far hnp 2 (.bool v9.p)).far hnp 3 (.int .i64 v9.a)).far hnp 4 (.int .i64 v9.e)).far hnp 5 (.int .i64 v9.z)
            have hbw2 : w.heap.size ≤ bv := by omega
            have b5 := below_set (below_set (below_set (below_set (below_set (bt_ hB6 hB') hbw2 (j := 6) (v := .int .i64 x.m)) hbw2 (j := 2) (v := .bool v9.p)) hbw2 (j := 3) (v := .int .i64 v9.a)) hbw2 (j := 4) (v := .int .i64 v9.e)) hbw2 (j := 5) (v := .int .i64 v9.z)
            replace a5 := Lib.hid a5
            replace r5 := Lib.hid r5
            replace p5 := Lib.hid p5
            replace b5 := Lib.hid b5
            clear hV hR HP hB6 hX h8 hv6 v6 m7
            go_wp2
            exact ⟨⟨k + 1, by omega, by go_num, by rw [hs2.out]; exact a5.out, r5.out, p5.out, b5.out⟩, by simp [intOf]; omega⟩
        · have tm : decide (mk < x.m) = false := decide_eq_false hmk
          have hs2 := Lib.hid (show settleM (l.take (k + 1)) = (mk, v0) by rw [hsn, tm]; simp)
          clear hsn hX h8 hmk
          go_wp2
          exact ⟨⟨k + 1, by omega, by go_num, by rw [hs2.out]; exact hV, hR, HP, hB6⟩, by simp [intOf]; omega⟩
    · obtain rfl : k = l.length := by omega
      rw [List.take_length] at hV
      generalize hst : settleM l = st at *
      obtain ⟨mk, v0⟩ := st
      simp only at hV
      replace hst := Lib.hid hst
      have hbw := hid1.out
      have hvr := hvv.out.below hB
      have hcs := fun W (hw : Ml W (.slice A l.length c) l) g9 hg => Lib.hid (count_sound _ l g9 W hw hg hl)
      generalize hcsE : cntP soundB l = cs at *
      replace hcsE := Lib.hid hcsE
      generalize hen : decide (p.N - p.W + 1 ≤ ((cs : Nat) : Int)) = en at *
      have henE := Lib.hid hen
      go_upto_region 12 with fail
      refine wp_region_fin 5 [.v (.slice A l.length c), .p (isGn1 (.func (.func 61) #[] #[])), .v (.int .i64 (cs : Nat)), .v (planV p), .v (.int .i64 (p.N - p.W + 1)), .p (fun _ _ => True), .v (.pointer (some ⟨bv, 0, none⟩)), .p (fun _ _ => True)] [([], none), ([], none), ([(0, some 44), (1, some 45)], none), ([], none), ([(3, some 47)], none), ([(2, some 46), (4, some 48)], none), ([], none), ([(5, some 49), (6, some 50)], none)] [(0, some 44), (1, some 45), (2, some 46), (3, some 47), (4, some 48), (5, some 49), (6, some 50), (7, none)] (fun _ _ => True) (fun v W => v = .bool en ∧ Below wr.heap.size wr W) (fun W => ∃ W', Below wr.heap.size wr W' ∧ W = W'.setCell ⟨bv, 0, none⟩ (.bool en)) (by kernel_rfl) (by kernel_rfl) (by kernel_rfl) (by kernel_rfl) (by kernel_rfl) (by kernel_rfl) (by exact ⟨trivial, last_Gn1 _, trivial, trivial, trivial, (fun _ _ _ _ _ => trivial), trivial, (fun _ _ _ _ _ => trivial), trivial⟩) (show 5 < 8 by decide) rfl rfl ⟨.inl ⟨by decide, ?s0⟩, .inl (by decide), .inl ⟨by decide, ?s1⟩, .inl (by decide), .inl ⟨by decide, ?s2⟩, .inl (by decide), .inl ⟨by decide, ?s3⟩, .inl (by decide), .inl ⟨by decide, ?s4⟩, .inl (by decide), .inr (.inl ⟨rfl, ?ap⟩), .inl (by decide), .inl ⟨by decide, ?s6⟩, .inr ⟨_, rfl, ?l6⟩, .inr (.inr ⟨rfl, ?sto⟩), .inl (by decide), trivial⟩ ?hQ
      case s0 =>
        intro W hB K hK
        simp only [tellK, Act.put, List.setIfInBounds_toArray, List.set_cons_zero, List.set_cons_succ] at hK ⊢
        refine tell_do rfl ?_
        obtain ⟨c0, c1, c2, c3, c4, c5⟩ := cells6 (HP.below hB)
        go_simp
        exact hK _ (Below.refl _ _)
      case s1 =>
        intro W hB K hK
        simp only [tellK, Act.put, List.setIfInBounds_toArray, List.set_cons_zero, List.set_cons_succ] at hK ⊢
        refine tell_do rfl ?_
        obtain ⟨c0, c1, c2, c3, c4, c5⟩ := cells6 (HP.below hB)
        go_simp
        exact hK _ _ ⟨W.heap.size, rfl, (Blk.new W #[.func (.func 61) #[] #[]] 98).cell 0 _ rfl⟩ (alloc_b _ _)
      case s2 =>
        intro W hB v1 h1 K hK
        simp only [tellK, Act.put, List.setIfInBounds_toArray, List.set_cons_zero, List.set_cons_succ] at hK ⊢
        refine tell_do rfl ?_
        obtain ⟨c0, c1, c2, c3, c4, c5⟩ := cells6 (HP.below hB)
        obtain ⟨g9, rfl, hg9⟩ := h1; go_simp; go_at_call 60; refine (hcs W (hvr.below hB) g9 hg9).out.mono ?_; rintro e W9 ⟨rfl, b9⟩; exact hK _ b9
      case s3 =>
        intro W hB K hK
        simp only [tellK, Act.put, List.setIfInBounds_toArray, List.set_cons_zero, List.set_cons_succ] at hK ⊢
        refine tell_do rfl ?_
        obtain ⟨c0, c1, c2, c3, c4, c5⟩ := cells6 (HP.below hB)
        go_simp
        exact hK _ (Below.refl _ _)
      case s4 =>
        intro W hB K hK
        simp only [tellK, Act.put, List.setIfInBounds_toArray, List.set_cons_zero, List.set_cons_succ] at hK ⊢
        refine tell_do rfl ?_
        obtain ⟨c0, c1, c2, c3, c4, c5⟩ := cells6 (HP.below hB)
        go_simp
        go_at_call 62; refine (quorum_yes p h _).mono ?_; rintro e W9 ⟨rfl, g9⟩; exact hK _ g9
      case s6 =>
        intro W hB K hK
        simp only [tellK, Act.put, List.setIfInBounds_toArray, List.set_cons_zero, List.set_cons_succ] at hK ⊢
        refine tell_do rfl ?_
        obtain ⟨c0, c1, c2, c3, c4, c5⟩ := cells6 (HP.below hB)
        go_simp
        exact hK _ (Below.refl _ _)
      case l6 =>
        intro v W hM
        simp only [tellGo]
        intro K hK
        simp only [Act.put, List.setIfInBounds_toArray, List.set_cons_zero, List.set_cons_succ] at hK ⊢
        refine tell_do rfl ?_
        obtain ⟨rfl, hB9⟩ := hM
        go_simp
        exact hK _ _ ⟨rfl, rfl⟩
      case ap =>
        intro W hB K hK
        simp only [Act.put, List.setIfInBounds_toArray, List.set_cons_zero, List.set_cons_succ] at hK ⊢
        refine tell_do rfl ?_
        obtain ⟨c0, c1, c2, c3, c4, c5⟩ := cells6 (HP.below hB)
        go_simp
        exact hK _ _ ⟨rfl, hB⟩
      case sto =>
        intro v W hM
        simp only [bareL, List.map_cons, List.map_nil, List.set_cons_zero, List.set_cons_succ, tellGo, sayAt, List.getD_cons_zero, List.getD_cons_succ]
        intro K hK
        simp only [Act.put, List.setIfInBounds_toArray, List.set_cons_zero, List.set_cons_succ] at hK ⊢
        refine tell_do rfl ?_
        obtain ⟨rfl, hB9⟩ := hM
        have a0 := hV.below hB9
        have k0 : W.cell? ⟨bv, 0, none⟩ = some (.bool false) := a0.cell 0 _ rfl
        have f0 := blk_frozen a0
        clear a0
        go_simp
        exact hK undef _ ⟨W, hB9, rfl⟩
      case hQ =>
        intro v W hP
        simp only [bareL, List.map_cons, List.map_nil, List.set_cons_zero, List.set_cons_succ, tellGo, sayAt, List.getD_cons_zero, List.getD_cons_succ]
        intro v1 _ v7 _
        simp only [Act.put, List.setIfInBounds_toArray, List.set_cons_zero, List.set_cons_succ]
        obtain ⟨W', hB', rfl⟩ := hP
        have hnr : br ≠ bv := by omega
        have hnp : w.heap.size ≠ bv := by omega
        have hV2 : Blk (W'.setCell ⟨bv, 0, none⟩ (.bool en)) bv (vdC en false v0 mk (.slice none 0 0)) 58 := blk_set (hV.below hB') 0 (.bool en)
        have hR2 := (hR.below hB').far hnr 0 (.bool en)
        have HP2 := (HP.below hB').far hnp 0 (.bool en)
        have hB2 := below_set (bt_ hB hB') (show w.heap.size ≤ bv by omega) (j := 0) (v := .bool en)
        generalize W'.setCell ⟨bv, 0, none⟩ (.bool en) = wS at *
        clear hV hR HP hB hcs hB' hvr
        have hV := hV2
        have hR := hR2
        have HP := HP2
        have hB := hB2
        clear hV2 hR2 HP2 hB2
        have hvr := hvv.out.below hB
        have hcl := fun W (hw : Ml W (.slice A l.length c) l) g9 hg => Lib.hid (count_left _ l g9 W hw hg hl)
        have hcm := fun W (hw : Ml W (.slice A l.length c) l) g9 hg hg2 hq => Lib.hid (count_ms _ l g9 bv mk W hw hg hg2 hq hl)
        generalize hclE : cntP leftB l = cl at *
        replace hclE := Lib.hid hclE
        generalize hcmE : cntP (msB mk) l = cm at *
        replace hcmE := Lib.hid hcmE
        have hclr : Hid (∀ b, b = ((cl == 0) && ((mk == 0) || decide (p.W ≤ ((cm : Nat) : Int)))) → ((cl == 0) && ((mk == 0) || decide (p.W ≤ ((cm : Nat) : Int)))) = b) := Lib.hid (fun b e => e.symm)
        by_cases hq1 : cl = 0
        · have tq1 : (((cl : Nat) : Int) == 0) = true := by rw [hq1]; rfl
          by_cases hq2 : mk = 0
          · have tq2 : (mk == 0) = true := by rw [hq2]; rfl
            have hres : Hid (((cl == 0) && ((mk == 0) || decide (p.W ≤ ((cm : Nat) : Int)))) = true) := Lib.hid (by rw [hq1, hq2]; rfl)
            clear hq1 hq2 hclr
            go_upto_region 13 with fail
            refine wp_region_fin 17 [.v (.slice A l.length c), .p (isGn1 (.func (.func 63) #[] #[])), .v (.int .i64 (cl : Nat)), .v (.bool true), .v (.bool true), .v (.pointer (some ⟨bv, 6, none⟩)), .v (.int .i64 mk), .v (.bool true), .v (.bool true), .v (undef), .v (undef), .v (undef), .v (undef), .v (undef), .v (undef), .v (undef), .v (.bool true), .p (fun _ _ => True), .v (.pointer (some ⟨bv, 1, none⟩)), .p (fun _ _ => True)] [([], none), ([], none), ([(0, some 51), (1, some 52)], none), ([(2, some 53)], none), ([(3, some 54)], none), ([(4, some 55)], some (some 55, true)), ([(4, some 55), (5, some 56)], some (some 55, true)), ([(4, some 55), (6, some 57)], some (some 55, true)), ([(4, some 55), (7, some 58)], some (some 55, true)), ([(8, some 59)], some (some 59, false)), ([(8, some 59)], some (some 59, false)), ([(8, some 59), (10, some 61)], some (some 59, false)), ([(8, some 59), (9, some 60), (11, some 62)], some (some 59, false)), ([(8, some 59)], some (some 59, false)), ([(8, some 59), (13, some 64)], some (some 59, false)), ([(8, some 59), (12, some 63), (14, some 65)], some (some 59, false)), ([(4, some 55), (8, some 59), (15, some 66)], some (some 55, true)), ([(4, some 55), (16, some 67)], none), ([], none), ([(17, some 68), (18, some 69)], none)] [(0, some 51), (1, some 52), (2, some 53), (3, some 54), (4, some 55), (5, some 56), (6, some 57), (7, some 58), (8, some 59), (9, some 60), (10, some 61), (11, some 62), (12, some 63), (13, some 64), (14, some 65), (15, some 66), (16, some 67), (17, some 68), (18, some 69), (19, none)] (fun _ _ => True) (fun v W => v = .bool true ∧ Below wS.heap.size wS W) (fun W => ∃ W', Below wS.heap.size wS W' ∧ W = W'.setCell ⟨bv, 1, none⟩ (.bool true)) (by kernel_rfl) (by kernel_rfl) (by kernel_rfl) (by kernel_rfl) (by kernel_rfl) (by kernel_rfl) (by exact ⟨trivial, last_Gn1 _, trivial, trivial, trivial, trivial, trivial, trivial, trivial, trivial, trivial, trivial, trivial, trivial, trivial, trivial, trivial, (fun _ _ _ _ _ => trivial), trivial, (fun _ _ _ _ _ => trivial), trivial⟩) (show 17 < 20 by decide) rfl rfl ⟨.inl ⟨by decide, ?s0⟩, .inl (by decide), .inl ⟨by decide, ?s1⟩, .inl (by decide), .inl ⟨by decide, ?s2⟩, .inl (by decide), .inl ⟨by decide, ?s3⟩, .inl (by decide), .inl ⟨by decide, ?s4⟩, .inl (by decide), .inl ⟨by decide, ?s5⟩, .inl (by decide), .inl ⟨by decide, ?s6⟩, .inl (by decide), .inl ⟨by decide, ?s7⟩, .inl (by decide), .inl ⟨by decide, ?s8⟩, .inl (by decide), .inl ⟨by decide, ?s9⟩, .inl (by decide), .inl ⟨by decide, ?s10⟩, .inl (by decide), .inl ⟨by decide, ?s11⟩, .inl (by decide), .inl ⟨by decide, ?s12⟩, .inl (by decide), .inl ⟨by decide, ?s13⟩, .inl (by decide), .inl ⟨by decide, ?s14⟩, .inl (by decide), .inl ⟨by decide, ?s15⟩, .inl (by decide), .inl ⟨by decide, ?s16⟩, .inl (by decide), .inr (.inl ⟨rfl, ?ap⟩), .inl (by decide), .inl ⟨by decide, ?s18⟩, .inr ⟨_, rfl, ?l18⟩, .inr (.inr ⟨rfl, ?sto⟩), .inl (by decide), trivial⟩ ?hQ
            case s0 =>
              intro W hB K hK
              simp only [tellK, Act.put, List.setIfInBounds_toArray, List.set_cons_zero, List.set_cons_succ] at hK ⊢
              refine tell_do rfl ?_
              obtain ⟨c0, c1, c2, c3, c4, c5⟩ := cells6 (HP.below hB); have q6 : W.cell? ⟨bv, 6, none⟩ = some (.int .i64 mk) := (hV.below hB).cell 6 _ rfl
              go_simp
              exact hK _ (Below.refl _ _)
            case s1 =>
              intro W hB K hK
              simp only [tellK, Act.put, List.setIfInBounds_toArray, List.set_cons_zero, List.set_cons_succ] at hK ⊢
              refine tell_do rfl ?_
              obtain ⟨c0, c1, c2, c3, c4, c5⟩ := cells6 (HP.below hB); have q6 : W.cell? ⟨bv, 6, none⟩ = some (.int .i64 mk) := (hV.below hB).cell 6 _ rfl
              go_simp
              exact hK _ _ ⟨W.heap.size, rfl, (Blk.new W #[.func (.func 63) #[] #[]] 98).cell 0 _ rfl⟩ (alloc_b _ _)
            case s2 =>
              intro W hB v1 h1 K hK
              simp only [tellK, Act.put, List.setIfInBounds_toArray, List.set_cons_zero, List.set_cons_succ] at hK ⊢
              refine tell_do rfl ?_
              obtain ⟨c0, c1, c2, c3, c4, c5⟩ := cells6 (HP.below hB); have q6 : W.cell? ⟨bv, 6, none⟩ = some (.int .i64 mk) := (hV.below hB).cell 6 _ rfl
              obtain ⟨g9, rfl, hg9⟩ := h1; go_simp; go_at_call 60; refine (hcl W (hvr.below hB) g9 hg9).out.mono ?_; rintro e W9 ⟨rfl, b9⟩; exact hK _ b9
            case s3 =>
              intro W hB K hK
              simp only [tellK, Act.put, List.setIfInBounds_toArray, List.set_cons_zero, List.set_cons_succ] at hK ⊢
              refine tell_do rfl ?_
              obtain ⟨c0, c1, c2, c3, c4, c5⟩ := cells6 (HP.below hB); have q6 : W.cell? ⟨bv, 6, none⟩ = some (.int .i64 mk) := (hV.below hB).cell 6 _ rfl
              go_simp
              exact hK _ (Below.refl _ _)
            case s4 =>
              intro W hB K hK
              simp only [tellK, Act.put, List.setIfInBounds_toArray, List.set_cons_zero, List.set_cons_succ] at hK ⊢
              refine tell_do rfl ?_
              obtain ⟨c0, c1, c2, c3, c4, c5⟩ := cells6 (HP.below hB); have q6 : W.cell? ⟨bv, 6, none⟩ = some (.int .i64 mk) := (hV.below hB).cell 6 _ rfl
              go_simp
              exact hK _ (Below.refl _ _)
            case s5 =>
              intro W hB K hK
              simp only [tellK, Act.put, List.setIfInBounds_toArray, List.set_cons_zero, List.set_cons_succ] at hK ⊢
              refine tell_do rfl ?_
              obtain ⟨c0, c1, c2, c3, c4, c5⟩ := cells6 (HP.below hB); have q6 : W.cell? ⟨bv, 6, none⟩ = some (.int .i64 mk) := (hV.below hB).cell 6 _ rfl
              go_simp
              exact hK _ (Below.refl _ _)
            case s6 =>
              intro W hB K hK
              simp only [tellK, Act.put, List.setIfInBounds_toArray, List.set_cons_zero, List.set_cons_succ] at hK ⊢
              refine tell_do rfl ?_
              obtain ⟨c0, c1, c2, c3, c4, c5⟩ := cells6 (HP.below hB); have q6 : W.cell? ⟨bv, 6, none⟩ = some (.int .i64 mk) := (hV.below hB).cell 6 _ rfl
              go_simp
              exact hK _ (Below.refl _ _)
            case s7 =>
              intro W hB K hK
              simp only [tellK, Act.put, List.setIfInBounds_toArray, List.set_cons_zero, List.set_cons_succ] at hK ⊢
              refine tell_do rfl ?_
              obtain ⟨c0, c1, c2, c3, c4, c5⟩ := cells6 (HP.below hB); have q6 : W.cell? ⟨bv, 6, none⟩ = some (.int .i64 mk) := (hV.below hB).cell 6 _ rfl
              go_simp
              exact hK _ (Below.refl _ _)
            case s8 =>
              intro W hB K hK
              simp only [tellK, Act.put, List.setIfInBounds_toArray, List.set_cons_zero, List.set_cons_succ] at hK ⊢
              refine tell_do rfl ?_
              obtain ⟨c0, c1, c2, c3, c4, c5⟩ := cells6 (HP.below hB); have q6 : W.cell? ⟨bv, 6, none⟩ = some (.int .i64 mk) := (hV.below hB).cell 6 _ rfl
              go_simp
              exact hK _ (Below.refl _ _)
            case s9 =>
              intro W hB K hK
              simp only [tellK, Act.put, List.setIfInBounds_toArray, List.set_cons_zero, List.set_cons_succ] at hK ⊢
              refine tell_not rfl ?_
              exact hK _ (Below.refl _ _)
            case s10 =>
              intro W hB K hK
              simp only [tellK, Act.put, List.setIfInBounds_toArray, List.set_cons_zero, List.set_cons_succ] at hK ⊢
              refine tell_not rfl ?_
              exact hK _ (Below.refl _ _)
            case s11 =>
              intro W hB K hK
              simp only [tellK, Act.put, List.setIfInBounds_toArray, List.set_cons_zero, List.set_cons_succ] at hK ⊢
              refine tell_not rfl ?_
              exact hK _ (Below.refl _ _)
            case s12 =>
              intro W hB K hK
              simp only [tellK, Act.put, List.setIfInBounds_toArray, List.set_cons_zero, List.set_cons_succ] at hK ⊢
              refine tell_not rfl ?_
              exact hK _ (Below.refl _ _)
            case s13 =>
              intro W hB K hK
              simp only [tellK, Act.put, List.setIfInBounds_toArray, List.set_cons_zero, List.set_cons_succ] at hK ⊢
              refine tell_not rfl ?_
              exact hK _ (Below.refl _ _)
            case s14 =>
              intro W hB K hK
              simp only [tellK, Act.put, List.setIfInBounds_toArray, List.set_cons_zero, List.set_cons_succ] at hK ⊢
              refine tell_not rfl ?_
              exact hK _ (Below.refl _ _)
            case s15 =>
              intro W hB K hK
              simp only [tellK, Act.put, List.setIfInBounds_toArray, List.set_cons_zero, List.set_cons_succ] at hK ⊢
              refine tell_not rfl ?_
              exact hK _ (Below.refl _ _)
            case s16 =>
              intro W hB K hK
              simp only [tellK, Act.put, List.setIfInBounds_toArray, List.set_cons_zero, List.set_cons_succ] at hK ⊢
              refine tell_do rfl ?_
              obtain ⟨c0, c1, c2, c3, c4, c5⟩ := cells6 (HP.below hB); have q6 : W.cell? ⟨bv, 6, none⟩ = some (.int .i64 mk) := (hV.below hB).cell 6 _ rfl
              go_simp
              exact hK _ (Below.refl _ _)
            case s18 =>
              intro W hB K hK
              simp only [tellK, Act.put, List.setIfInBounds_toArray, List.set_cons_zero, List.set_cons_succ] at hK ⊢
              refine tell_do rfl ?_
              obtain ⟨c0, c1, c2, c3, c4, c5⟩ := cells6 (HP.below hB); have q6 : W.cell? ⟨bv, 6, none⟩ = some (.int .i64 mk) := (hV.below hB).cell 6 _ rfl
              go_simp
              exact hK _ (Below.refl _ _)
            case l18 =>
              intro v W hM
              simp only [tellGo]
              intro K hK
              simp only [Act.put, List.setIfInBounds_toArray, List.set_cons_zero, List.set_cons_succ] at hK ⊢
              refine tell_do rfl ?_
              obtain ⟨rfl, hB9⟩ := hM
              go_simp
              exact hK _ _ ⟨rfl, rfl⟩
            case ap =>
              intro W hB K hK
              simp only [Act.put, List.setIfInBounds_toArray, List.set_cons_zero, List.set_cons_succ] at hK ⊢
              refine tell_do rfl ?_
              obtain ⟨c0, c1, c2, c3, c4, c5⟩ := cells6 (HP.below hB); have q6 : W.cell? ⟨bv, 6, none⟩ = some (.int .i64 mk) := (hV.below hB).cell 6 _ rfl
              go_simp
              exact hK _ _ ⟨rfl, hB⟩
            case sto =>
              intro v W hM
              simp only [bareL, List.map_cons, List.map_nil, List.set_cons_zero, List.set_cons_succ, tellGo, sayAt, List.getD_cons_zero, List.getD_cons_succ]
              intro K hK
              simp only [Act.put, List.setIfInBounds_toArray, List.set_cons_zero, List.set_cons_succ] at hK ⊢
              refine tell_do rfl ?_
              obtain ⟨rfl, hB9⟩ := hM
              have a0 := hV.below hB9
              have k0 : W.cell? ⟨bv, 1, none⟩ = some (.bool false) := a0.cell 1 _ rfl
              have f0 := blk_frozen a0
              clear a0
              go_simp
              exact hK undef _ ⟨W, hB9, rfl⟩
            case hQ =>
              intro v W hP
              simp only [bareL, List.map_cons, List.map_nil, List.set_cons_zero, List.set_cons_succ, tellGo, sayAt, List.getD_cons_zero, List.getD_cons_succ]
              intro v1 _ v19 _
              simp only [Act.put, List.setIfInBounds_toArray, List.set_cons_zero, List.set_cons_succ]
              obtain ⟨W', hB', rfl⟩ := hP
              have hV3 : Blk (W'.setCell ⟨bv, 1, none⟩ (.bool true)) bv (vdC en true v0 mk (.slice none 0 0)) 58 := blk_set (hV.below hB') 1 (.bool true)
              have hR3 := (hR.below hB').far hnr 1 (.bool true)
              have hB3 := below_set (bt_ hB hB') (show w.heap.size ≤ bv by omega) (j := 1) (v := .bool true)
              generalize W'.setCell ⟨bv, 1, none⟩ (.bool true) = wT at *
              clear hV hR HP hB hcl hcm hB' hvr
              go_wp2_with fail
              go_loopw [72] (fun i wr => ∃ (k : Nat) (hw : Value), k ≤ l.length ∧ i = .int .i64 k ∧ Blk wr bv (vdC en true v0 mk hw) 58 ∧ Oi w wr hw (hs14 v0 (l.take k)) ∧ Blk wr br (vdC false false noV 0 (.slice none 0 0)) 58 ∧ Below w.heap.size w wr) (fun i _ => l.length - (intOf i).toNat)
              case atStart => exact ⟨0, _, by omega, rfl, hV3, Own.nil _ _ _ _, hR3, hB3⟩
              case round =>
                clear hV3 hR3 hB3
                obtain ⟨k, hw, hk, rfl, hV, hO, hR, hB⟩ := hrel
                obtain ⟨Ah, nh, rfl⟩ := rk_form (Own.rk hO)
                have hv := hvv.out
                by_cases hlt : k < l.length
                · have hsn := hs14_snoc v0 l k hlt
                  have hSl := hs14_le v0 (l.take k)
                  rw [List.length_take] at hSl
                  obtain ⟨ad, rfl, hok, hc⟩ := msg_at (hv.below hB).row k hlt
                  have hrd := (hv.rd (l.getD k zM) (by rw [List.getD_eq_getElem?_getD, List.getElem?_eq_getElem hlt]; exact List.getElem_mem _)).below hB
                  skip
                  generalize l.getD k zM = x at *
                  have hz := Blk.new wr zeroC 56
                  have hbx := boxM_blk wr x
                  have hbb := boxM_below wr x
                  replace hrd := hrd.below hbb
                  have hB2 := bt_ hB hbb
                  have hc2 := Lib.hid hc
                  clear hc
                  go_upto_region 17 with (first
                    | ((with_reducible refine gate_dst (N := 75) rfl ?_); refine wpList_load_msg rfl (.tmp 74) rfl (ad.add (k * 13)) rfl x hc2.out ?_)
                    | (refine wpList_store_row rfl 56 (.tmp 12) (.tmp 75) rfl wr.heap.size (mC x) rfl rfl 56 zeroC hz (by kernel_rfl) rfl hok.all ?_; change wpList _ _ _ _ _ (boxM wr x))
                    | fail)
                  replace hV := hV.below hbb
                  replace hR := hR.below hbb
                  replace hO := Own.below hO hbb
                  have hokx := hok
                  generalize hs14 v0 (l.take k) = S at *
                  generalize boxM wr x = W2 at *
                  generalize wr.heap.size = bx at *
                  obtain ⟨m0, _⟩ := mcell hbx
                  replace hsn := Lib.hid hsn
                  clear hbb hB hz hc2 hv
                  generalize hq14 : (x.k == 14) = q14 at *
                  cases q14 with
                  | false =>
                    have hs2 := Lib.hid (show hs14 v0 (l.take (k + 1)) = S by rw [hsn.out]; simp)
                    clear hbx hrd hokx
                    go_wp2
                    exact ⟨⟨k + 1, _, by omega, by go_num, hV, by rw [hs2.out]; exact hO, hR, hB2⟩, by simp [intOf]; omega⟩
                  | true =>
                    have hs2 := Lib.hid (show hs14 v0 (l.take (k + 1)) = S ++ holdL v0 [x] by rw [hsn.out]; simp)
                    have hml := lit_ms W2 x hrd hokx
                    have hba := below_alloc (Below.refl W2.heap.size W2) (.cells (mC x) 56)
                    have hVa := hV.below hba
                    have y2 : (W2.alloc (.cells (mC x) 56)).cell? ⟨bv, 2, none⟩ = some (.bool v0.p) := hVa.cell 2 _ rfl
                    have y3 : (W2.alloc (.cells (mC x) 56)).cell? ⟨bv, 3, none⟩ = some (.int .i64 v0.a) := hVa.cell 3 _ rfl
                    have y4 : (W2.alloc (.cells (mC x) 56)).cell? ⟨bv, 4, none⟩ = some (.int .i64 v0.e) := hVa.cell 4 _ rfl
                    have y5 : (W2.alloc (.cells (mC x) 56)).cell? ⟨bv, 5, none⟩ = some (.int .i64 v0.z) := hVa.cell 5 _ rfl
                    have hTl : (holdL v0 [x]).length ≤ 1 := holdL_le v0 [x]
                    have hO3 := Own.below hO hba
                    have hR3 := hR.below hba
                    have hB3 := bt_ hB2 hba
                    clear hV hO hR hB2 hba hrd hokx
                    go_wp2_with (first
                      | ((with_reducible refine gate_dst (N := 79) rfl ?_); refine wpList_load_row rfl 56 (.tmp 12) rfl bx rfl 56 (mC x) (0, 0) _ hbx Try.underlying56 rfl (by kernel_rfl) ?_)
                      | ((with_reducible refine gate_dst (N := 80) rfl ?_); refine wpList_lit_msg rfl (.tmp 79) rfl x rfl ?_)
                      | fail)
                    refine (Hold_c _ [x] v0 _ hml (show 1 ≤ 1000 by omega)).mono ?_
                    generalize W2.alloc (.cells (mC x) 56) = W3 at *
                    rintro e w5 ⟨z, rfl, hz5, h5⟩
                    have hV5 := hVa.below h5
                    have hO5 := Own.below hO3 h5
                    have hR5 := hR3.below h5
                    have hB5 := bt_ hB3 h5
                    have hz5r := Own.rk hz5
                    generalize holdL v0 [x] = T at *
                    clear hml hVa hO3 hR3 hB3 hbx y2 y3 y4 y5 m0 hz5 h5
                    have k7 : w5.cell? ⟨bv, 7, none⟩ = some (.slice Ah S.length nh) := hV5.cell 7 _ rfl
                    obtain ⟨At, ct, rfl⟩ := rk_form hz5r
                    go_wp2_with (first
                      | (at_builtin; refine app_many (enc := Value.int .i64) rfl (.tmp 85) (.tmp 86) 53 3 (.int .i64 0) 8 rfl Try.underlying53 infoI rfl (by decide) _ S T _ rfl rfl hO5 hz5r hB5 ?hl ?_; (case hl => omega); intro v1 w1 ho hb hg)
                      | ((with_reducible refine gate_dst (N := 88) rfl ?_); refine halt ?_)
                      | fail)
                    refine ⟨?_⟩
                    have hV6 : Blk w1 bv (vdC en true v0 mk (.slice Ah S.length nh)) 58 := blk_grown hV5 hg (own_ne (oi_own hO5) hV5 (by decide))
                    have hR6 : Blk w1 br (vdC false false noV 0 (.slice none 0 0)) 58 := blk_grown hR5 hg (own_ne (oi_own hO5) hR5 (by decide))
                    have k8 : w1.cell? ⟨bv, 7, none⟩ = some (.slice Ah S.length nh) := hV6.cell 7 _ rfl
                    have f8 := blk_frozen hV6
                    clear hg k7 hV5 hR5 hB5
                    generalize S ++ T = U at *
                    obtain ⟨A8, c8, rfl⟩ := rk_form (Own.rk ho)
                    have hV7 := Lib.hid (show Blk (w1.setCell ⟨bv, 7, none⟩ (.slice A8 U.length c8)) bv (vdC en true v0 mk (.slice A8 U.length c8)) 58 from blk_set hV6 7 (.slice A8 U.length c8))
                    have hO7 := Lib.hid (oi_far ho hV6 (by decide) 7 (.slice A8 U.length c8))
                    have hR7 := Lib.hid (hR6.far hnr 7 (.slice A8 U.length c8))
                    have hB7 := Lib.hid (below_set hb (show w.heap.size ≤ bv by omega) (j := 7) (v := .slice A8 U.length c8))
                    clear ho hV6 hR6 hb
                    go_wp2
                    exact ⟨⟨k + 1, _, by omega, by go_num, hV7.out, by rw [hs2.out]; exact hO7.out, hR7.out, hB7.out⟩, by simp [intOf]; omega⟩
                · obtain rfl : k = l.length := by omega
                  rw [List.take_length] at hO hV
                  generalize hS9 : hs14 v0 l = S at *
                  go_wp2_with (first
                    | ((with_reducible refine gate_dst (N := 90) rfl ?_); refine wpList_load_row rfl 58 (.tmp 5) rfl bv rfl 58 (vdC en true v0 mk (.slice Ah S.length nh)) (0, 0) _ hV Try.underlying58 rfl (by kernel_rfl) ?_)
                    | (refine wpList_store_row rfl 58 (.tmp 4) (.tmp 90) rfl br (vdC en true v0 mk (.slice Ah S.length nh)) rfl rfl 58 (vdC false false noV 0 (.slice none 0 0)) hR (by kernel_rfl) rfl (by simp [Value.oneCell']) ?_)
                    | fail)
                  refine bodyPost_ret (results_cell_row rfl _ _ br 58 (vdC en true v0 mk (.slice Ah S.length nh)) (0, 0) _ rfl (setRow_heap _ _ (vdC false false noV 0 (.slice none 0 0)) _ _ (0, 0) hR) Try.underlying58 rfl (by kernel_rfl)) rfl ?_
                  refine ⟨.slice Ah S.length nh, ?_, ?_, ?_⟩
                  · rw [hst.out, hcsE.out, hclE.out]
                    show Ending.returned (.agg (vdC en true v0 mk (.slice Ah S.length nh))) = .returned (.agg (vdC (decide (p.N - p.W + 1 ≤ ((cs : Nat) : Int))) ((cl == 0) && ((mk == 0) || decide (p.W ≤ ((cntP (msB mk) l : Nat) : Int)))) v0 mk (.slice Ah S.length nh)))
                    rw [hcmE.out, hres.out, henE.out]
                  · rw [hst.out]
                    show Ri _ _ (hs14 v0 l)
                    rw [hS9]
                    exact Own.rk (own_oi (own_other (oi_own hO) (grown_rowM wr br _) (.inr (own_ne (oi_own hO) hR (by decide)).symm)))
                  · exact below_setRow hB (by omega) _
          · have tq2 : (mk == 0) = false := beq_eq_false_iff_ne.2 hq2
            generalize hrr : decide (p.W ≤ ((cm : Nat) : Int)) = rr at *
            have hres : Hid (((cl == 0) && ((mk == 0) || decide (p.W ≤ ((cm : Nat) : Int)))) = rr) := Lib.hid (by rw [hq1, tq2, hrr]; rfl)
            clear hq1 hq2 hclr
            go_upto_region 13 with fail
            refine wp_region_fin 17 [.v (.slice A l.length c), .p (isGn1 (.func (.func 63) #[] #[])), .v (.int .i64 (cl : Nat)), .v (.bool true), .v (.bool true), .v (.pointer (some ⟨bv, 6, none⟩)), .v (.int .i64 mk), .v (.bool false), .v (.bool false), .v (.slice A l.length c), .v (.func (.func 59) #[] #[.pointer (some ⟨bv, 0, none⟩)]), .p (isGn2 (.func (.func 64) #[] #[]) (.func (.func 59) #[] #[.pointer (some ⟨bv, 0, none⟩)])), .v (.int .i64 (cm : Nat)), .v (.pointer (some ⟨w.heap.size, 3, none⟩)), .v (.int .i64 p.W), .v (.bool rr), .v (.bool rr), .p (fun _ _ => True), .v (.pointer (some ⟨bv, 1, none⟩)), .p (fun _ _ => True)] [([], none), ([], none), ([(0, some 51), (1, some 52)], none), ([(2, some 53)], none), ([(3, some 54)], none), ([(4, some 55)], some (some 55, true)), ([(4, some 55), (5, some 56)], some (some 55, true)), ([(4, some 55), (6, some 57)], some (some 55, true)), ([(4, some 55), (7, some 58)], some (some 55, true)), ([(8, some 59)], some (some 59, false)), ([(8, some 59)], some (some 59, false)), ([(8, some 59), (10, some 61)], some (some 59, false)), ([(8, some 59), (9, some 60), (11, some 62)], some (some 59, false)), ([(8, some 59)], some (some 59, false)), ([(8, some 59), (13, some 64)], some (some 59, false)), ([(8, some 59), (12, some 63), (14, some 65)], some (some 59, false)), ([(4, some 55), (8, some 59), (15, some 66)], some (some 55, true)), ([(4, some 55), (16, some 67)], none), ([], none), ([(17, some 68), (18, some 69)], none)] [(0, some 51), (1, some 52), (2, some 53), (3, some 54), (4, some 55), (5, some 56), (6, some 57), (7, some 58), (8, some 59), (9, some 60), (10, some 61), (11, some 62), (12, some 63), (13, some 64), (14, some 65), (15, some 66), (16, some 67), (17, some 68), (18, some 69), (19, none)] (fun _ _ => True) (fun v W => v = .bool rr ∧ Below wS.heap.size wS W) (fun W => ∃ W', Below wS.heap.size wS W' ∧ W = W'.setCell ⟨bv, 1, none⟩ (.bool rr)) (by kernel_rfl) (by kernel_rfl) (by kernel_rfl) (by kernel_rfl) (by kernel_rfl) (by kernel_rfl) (by exact ⟨trivial, last_Gn1 _, trivial, trivial, trivial, trivial, trivial, trivial, trivial, trivial, trivial, last_Gn2 _ _, trivial, trivial, trivial, trivial, trivial, (fun _ _ _ _ _ => trivial), trivial, (fun _ _ _ _ _ => trivial), trivial⟩) (show 17 < 20 by decide) rfl rfl ⟨.inl ⟨by decide, ?s0⟩, .inl (by decide), .inl ⟨by decide, ?s1⟩, .inl (by decide), .inl ⟨by decide, ?s2⟩, .inl (by decide), .inl ⟨by decide, ?s3⟩, .inl (by decide), .inl ⟨by decide, ?s4⟩, .inl (by decide), .inl ⟨by decide, ?s5⟩, .inl (by decide), .inl ⟨by decide, ?s6⟩, .inl (by decide), .inl ⟨by decide, ?s7⟩, .inl (by decide), .inl ⟨by decide, ?s8⟩, .inl (by decide), .inl ⟨by decide, ?s9⟩, .inl (by decide), .inl ⟨by decide, ?s10⟩, .inl (by decide), .inl ⟨by decide, ?s11⟩, .inl (by decide), .inl ⟨by decide, ?s12⟩, .inl (by decide), .inl ⟨by decide, ?s13⟩, .inl (by decide), .inl ⟨by decide, ?s14⟩, .inl (by decide), .inl ⟨by decide, ?s15⟩, .inl (by decide), .inl ⟨by decide, ?s16⟩, .inl (by decide), .inr (.inl ⟨rfl, ?ap⟩), .inl (by decide), .inl ⟨by decide, ?s18⟩, .inr ⟨_, rfl, ?l18⟩, .inr (.inr ⟨rfl, ?sto⟩), .inl (by decide), trivial⟩ ?hQ
            case s0 =>
              intro W hB K hK
              simp only [tellK, Act.put, List.setIfInBounds_toArray, List.set_cons_zero, List.set_cons_succ] at hK ⊢
              refine tell_do rfl ?_
              obtain ⟨c0, c1, c2, c3, c4, c5⟩ := cells6 (HP.below hB); have q6 : W.cell? ⟨bv, 6, none⟩ = some (.int .i64 mk) := (hV.below hB).cell 6 _ rfl
              go_simp
              exact hK _ (Below.refl _ _)
            case s1 =>
              intro W hB K hK
              simp only [tellK, Act.put, List.setIfInBounds_toArray, List.set_cons_zero, List.set_cons_succ] at hK ⊢
              refine tell_do rfl ?_
              obtain ⟨c0, c1, c2, c3, c4, c5⟩ := cells6 (HP.below hB); have q6 : W.cell? ⟨bv, 6, none⟩ = some (.int .i64 mk) := (hV.below hB).cell 6 _ rfl
              go_simp
              exact hK _ _ ⟨W.heap.size, rfl, (Blk.new W #[.func (.func 63) #[] #[]] 98).cell 0 _ rfl⟩ (alloc_b _ _)
            case s2 =>
              intro W hB v1 h1 K hK
              simp only [tellK, Act.put, List.setIfInBounds_toArray, List.set_cons_zero, List.set_cons_succ] at hK ⊢
              refine tell_do rfl ?_
              obtain ⟨c0, c1, c2, c3, c4, c5⟩ := cells6 (HP.below hB); have q6 : W.cell? ⟨bv, 6, none⟩ = some (.int .i64 mk) := (hV.below hB).cell 6 _ rfl
              obtain ⟨g9, rfl, hg9⟩ := h1; go_simp; go_at_call 60; refine (hcl W (hvr.below hB) g9 hg9).out.mono ?_; rintro e W9 ⟨rfl, b9⟩; exact hK _ b9
            case s3 =>
              intro W hB K hK
              simp only [tellK, Act.put, List.setIfInBounds_toArray, List.set_cons_zero, List.set_cons_succ] at hK ⊢
              refine tell_do rfl ?_
              obtain ⟨c0, c1, c2, c3, c4, c5⟩ := cells6 (HP.below hB); have q6 : W.cell? ⟨bv, 6, none⟩ = some (.int .i64 mk) := (hV.below hB).cell 6 _ rfl
              go_simp
              exact hK _ (Below.refl _ _)
            case s4 =>
              intro W hB K hK
              simp only [tellK, Act.put, List.setIfInBounds_toArray, List.set_cons_zero, List.set_cons_succ] at hK ⊢
              refine tell_do rfl ?_
              obtain ⟨c0, c1, c2, c3, c4, c5⟩ := cells6 (HP.below hB); have q6 : W.cell? ⟨bv, 6, none⟩ = some (.int .i64 mk) := (hV.below hB).cell 6 _ rfl
              go_simp
              exact hK _ (Below.refl _ _)
            case s5 =>
              intro W hB K hK
              simp only [tellK, Act.put, List.setIfInBounds_toArray, List.set_cons_zero, List.set_cons_succ] at hK ⊢
              refine tell_do rfl ?_
              obtain ⟨c0, c1, c2, c3, c4, c5⟩ := cells6 (HP.below hB); have q6 : W.cell? ⟨bv, 6, none⟩ = some (.int .i64 mk) := (hV.below hB).cell 6 _ rfl
              go_simp
              exact hK _ (Below.refl _ _)
            case s6 =>
              intro W hB K hK
              simp only [tellK, Act.put, List.setIfInBounds_toArray, List.set_cons_zero, List.set_cons_succ] at hK ⊢
              refine tell_do rfl ?_
              obtain ⟨c0, c1, c2, c3, c4, c5⟩ := cells6 (HP.below hB); have q6 : W.cell? ⟨bv, 6, none⟩ = some (.int .i64 mk) := (hV.below hB).cell 6 _ rfl
              go_simp
              exact hK _ (Below.refl _ _)
            case s7 =>
              intro W hB K hK
              simp only [tellK, Act.put, List.setIfInBounds_toArray, List.set_cons_zero, List.set_cons_succ] at hK ⊢
              refine tell_do rfl ?_
              obtain ⟨c0, c1, c2, c3, c4, c5⟩ := cells6 (HP.below hB); have q6 : W.cell? ⟨bv, 6, none⟩ = some (.int .i64 mk) := (hV.below hB).cell 6 _ rfl
              go_simp
              exact hK _ (Below.refl _ _)
            case s8 =>
              intro W hB K hK
              simp only [tellK, Act.put, List.setIfInBounds_toArray, List.set_cons_zero, List.set_cons_succ] at hK ⊢
              refine tell_do rfl ?_
              obtain ⟨c0, c1, c2, c3, c4, c5⟩ := cells6 (HP.below hB); have q6 : W.cell? ⟨bv, 6, none⟩ = some (.int .i64 mk) := (hV.below hB).cell 6 _ rfl
              go_simp
              exact hK _ (Below.refl _ _)
            case s9 =>
              intro W hB K hK
              simp only [tellK, Act.put, List.setIfInBounds_toArray, List.set_cons_zero, List.set_cons_succ] at hK ⊢
              refine tell_do rfl ?_
              obtain ⟨c0, c1, c2, c3, c4, c5⟩ := cells6 (HP.below hB); have q6 : W.cell? ⟨bv, 6, none⟩ = some (.int .i64 mk) := (hV.below hB).cell 6 _ rfl
              go_simp
              exact hK _ (Below.refl _ _)
            case s10 =>
              intro W hB K hK
              simp only [tellK, Act.put, List.setIfInBounds_toArray, List.set_cons_zero, List.set_cons_succ] at hK ⊢
              refine tell_do rfl ?_
              obtain ⟨c0, c1, c2, c3, c4, c5⟩ := cells6 (HP.below hB); have q6 : W.cell? ⟨bv, 6, none⟩ = some (.int .i64 mk) := (hV.below hB).cell 6 _ rfl
              go_simp
              exact hK _ (Below.refl _ _)
            case s11 =>
              intro W hB K hK
              simp only [tellK, Act.put, List.setIfInBounds_toArray, List.set_cons_zero, List.set_cons_succ] at hK ⊢
              refine tell_do rfl ?_
              obtain ⟨c0, c1, c2, c3, c4, c5⟩ := cells6 (HP.below hB); have q6 : W.cell? ⟨bv, 6, none⟩ = some (.int .i64 mk) := (hV.below hB).cell 6 _ rfl
              go_simp
              exact hK _ _ ⟨W.heap.size, rfl, (Blk.new W #[.func (.func 64) #[] #[], .func (.func 59) #[] #[.pointer (some ⟨bv, 0, none⟩)]] 98).cell 0 _ rfl, (Blk.new W #[.func (.func 64) #[] #[], .func (.func 59) #[] #[.pointer (some ⟨bv, 0, none⟩)]] 98).cell 1 _ rfl⟩ (alloc_b _ _)
            case s12 =>
              intro W hB v11 h11 K hK
              simp only [tellK, Act.put, List.setIfInBounds_toArray, List.set_cons_zero, List.set_cons_succ] at hK ⊢
              refine tell_do rfl ?_
              obtain ⟨c0, c1, c2, c3, c4, c5⟩ := cells6 (HP.below hB); have q6 : W.cell? ⟨bv, 6, none⟩ = some (.int .i64 mk) := (hV.below hB).cell 6 _ rfl
              obtain ⟨g9, rfl, hg9, hg8⟩ := h11; go_simp; go_at_call 60; refine (hcm W (hvr.below hB) g9 hg9 hg8 q6).out.mono ?_; rintro e W9 ⟨rfl, b9⟩; exact hK _ b9
            case s13 =>
              intro W hB K hK
              simp only [tellK, Act.put, List.setIfInBounds_toArray, List.set_cons_zero, List.set_cons_succ] at hK ⊢
              refine tell_do rfl ?_
              obtain ⟨c0, c1, c2, c3, c4, c5⟩ := cells6 (HP.below hB); have q6 : W.cell? ⟨bv, 6, none⟩ = some (.int .i64 mk) := (hV.below hB).cell 6 _ rfl
              go_simp
              exact hK _ (Below.refl _ _)
            case s14 =>
              intro W hB K hK
              simp only [tellK, Act.put, List.setIfInBounds_toArray, List.set_cons_zero, List.set_cons_succ] at hK ⊢
              refine tell_do rfl ?_
              obtain ⟨c0, c1, c2, c3, c4, c5⟩ := cells6 (HP.below hB); have q6 : W.cell? ⟨bv, 6, none⟩ = some (.int .i64 mk) := (hV.below hB).cell 6 _ rfl
              go_simp
              exact hK _ (Below.refl _ _)
            case s15 =>
              intro W hB K hK
              simp only [tellK, Act.put, List.setIfInBounds_toArray, List.set_cons_zero, List.set_cons_succ] at hK ⊢
              refine tell_do rfl ?_
              obtain ⟨c0, c1, c2, c3, c4, c5⟩ := cells6 (HP.below hB); have q6 : W.cell? ⟨bv, 6, none⟩ = some (.int .i64 mk) := (hV.below hB).cell 6 _ rfl
              go_simp
              exact hK _ (Below.refl _ _)
            case s16 =>
              intro W hB K hK
              simp only [tellK, Act.put, List.setIfInBounds_toArray, List.set_cons_zero, List.set_cons_succ] at hK ⊢
              refine tell_do rfl ?_
              obtain ⟨c0, c1, c2, c3, c4, c5⟩ := cells6 (HP.below hB); have q6 : W.cell? ⟨bv, 6, none⟩ = some (.int .i64 mk) := (hV.below hB).cell 6 _ rfl
              go_simp
              exact hK _ (Below.refl _ _)
            case s18 =>
              intro W hB K hK
              simp only [tellK, Act.put, List.setIfInBounds_toArray, List.set_cons_zero, List.set_cons_succ] at hK ⊢
              refine tell_do rfl ?_
              obtain ⟨c0, c1, c2, c3, c4, c5⟩ := cells6 (HP.below hB); have q6 : W.cell? ⟨bv, 6, none⟩ = some (.int .i64 mk) := (hV.below hB).cell 6 _ rfl
              go_simp
              exact hK _ (Below.refl _ _)
            case l18 =>
              intro v W hM
              simp only [tellGo]
              intro K hK
              simp only [Act.put, List.setIfInBounds_toArray, List.set_cons_zero, List.set_cons_succ] at hK ⊢
              refine tell_do rfl ?_
              obtain ⟨rfl, hB9⟩ := hM
              go_simp
              exact hK _ _ ⟨rfl, rfl⟩
            case ap =>
              intro W hB K hK
              simp only [Act.put, List.setIfInBounds_toArray, List.set_cons_zero, List.set_cons_succ] at hK ⊢
              refine tell_do rfl ?_
              obtain ⟨c0, c1, c2, c3, c4, c5⟩ := cells6 (HP.below hB); have q6 : W.cell? ⟨bv, 6, none⟩ = some (.int .i64 mk) := (hV.below hB).cell 6 _ rfl
              go_simp
              exact hK _ _ ⟨rfl, hB⟩
            case sto =>
              intro v W hM
              simp only [bareL, List.map_cons, List.map_nil, List.set_cons_zero, List.set_cons_succ, tellGo, sayAt, List.getD_cons_zero, List.getD_cons_succ]
              intro K hK
              simp only [Act.put, List.setIfInBounds_toArray, List.set_cons_zero, List.set_cons_succ] at hK ⊢
              refine tell_do rfl ?_
              obtain ⟨rfl, hB9⟩ := hM
              have a0 := hV.below hB9
              have k0 : W.cell? ⟨bv, 1, none⟩ = some (.bool false) := a0.cell 1 _ rfl
              have f0 := blk_frozen a0
              clear a0
              go_simp
              exact hK undef _ ⟨W, hB9, rfl⟩
            case hQ =>
              intro v W hP
              simp only [bareL, List.map_cons, List.map_nil, List.set_cons_zero, List.set_cons_succ, tellGo, sayAt, List.getD_cons_zero, List.getD_cons_succ]
              intro v1 _ v11 _ v19 _
              simp only [Act.put, List.setIfInBounds_toArray, List.set_cons_zero, List.set_cons_succ]
              obtain ⟨W', hB', rfl⟩ := hP
              have hV3 : Blk (W'.setCell ⟨bv, 1, none⟩ (.bool rr)) bv (vdC en rr v0 mk (.slice none 0 0)) 58 := blk_set (hV.below hB') 1 (.bool rr)
              have hR3 := (hR.below hB').far hnr 1 (.bool rr)
              have hB3 := below_set (bt_ hB hB') (show w.heap.size ≤ bv by omega) (j := 1) (v := .bool rr)
              generalize W'.setCell ⟨bv, 1, none⟩ (.bool rr) = wT at *
              clear hV hR HP hB hcl hcm hB' hvr
              go_wp2_with fail
              go_loopw [72] (fun i wr => ∃ (k : Nat) (hw : Value), k ≤ l.length ∧ i = .int .i64 k ∧ Blk wr bv (vdC en rr v0 mk hw) 58 ∧ Oi w wr hw (hs14 v0 (l.take k)) ∧ Blk wr br (vdC false false noV 0 (.slice none 0 0)) 58 ∧ Below w.heap.size w wr) (fun i _ => l.length - (intOf i).toNat)
              case atStart => exact ⟨0, _, by omega, rfl, hV3, Own.nil _ _ _ _, hR3, hB3⟩
              case round =>
                clear hV3 hR3 hB3
                obtain ⟨k, hw, hk, rfl, hV, hO, hR, hB⟩ := hrel
                obtain ⟨Ah, nh, rfl⟩ := rk_form (Own.rk hO)
                have hv := hvv.out
                by_cases hlt : k < l.length
                · have hsn := hs14_snoc v0 l k hlt
                  have hSl := hs14_le v0 (l.take k)
                  rw [List.length_take] at hSl
                  obtain ⟨ad, rfl, hok, hc⟩ := msg_at (hv.below hB).row k hlt
                  have hrd := (hv.rd (l.getD k zM) (by rw [List.getD_eq_getElem?_getD, List.getElem?_eq_getElem hlt]; exact List.getElem_mem _)).below hB
                  skip
                  generalize l.getD k zM = x at *
                  have hz := Blk.new wr zeroC 56
                  have hbx := boxM_blk wr x
                  have hbb := boxM_below wr x
                  replace hrd := hrd.below hbb
                  have hB2 := bt_ hB hbb
                  have hc2 := Lib.hid hc
                  clear hc
                  go_upto_region 17 with (first
                    | ((with_reducible refine gate_dst (N := 75) rfl ?_); refine wpList_load_msg rfl (.tmp 74) rfl (ad.add (k * 13)) rfl x hc2.out ?_)
                    | (refine wpList_store_row rfl 56 (.tmp 12) (.tmp 75) rfl wr.heap.size (mC x) rfl rfl 56 zeroC hz (by kernel_rfl) rfl hok.all ?_; change wpList _ _ _ _ _ (boxM wr x))
                    | fail)
                  replace hV := hV.below hbb
                  replace hR := hR.below hbb
                  replace hO := Own.below hO hbb
                  have hokx := hok
                  generalize hs14 v0 (l.take k) = S at *
                  generalize boxM wr x = W2 at *
                  generalize wr.heap.size = bx at *
                  obtain ⟨m0, _⟩ := mcell hbx
                  replace hsn := Lib.hid hsn
                  clear hbb hB hz hc2 hv
                  generalize hq14 : (x.k == 14) = q14 at *
                  cases q14 with
                  | false =>
                    have hs2 := Lib.hid (show hs14 v0 (l.take (k + 1)) = S by rw [hsn.out]; simp)
                    clear hbx hrd hokx
                    go_wp2
                    exact ⟨⟨k + 1, _, by omega, by go_num, hV, by rw [hs2.out]; exact hO, hR, hB2⟩, by simp [intOf]; omega⟩
                  | true =>
                    have hs2 := Lib.hid (show hs14 v0 (l.take (k + 1)) = S ++ holdL v0 [x] by rw [hsn.out]; simp)
                    have hml := lit_ms W2 x hrd hokx
                    have hba := below_alloc (Below.refl W2.heap.size W2) (.cells (mC x) 56)
                    have hVa := hV.below hba
                    have y2 : (W2.alloc (.cells (mC x) 56)).cell? ⟨bv, 2, none⟩ = some (.bool v0.p) := hVa.cell 2 _ rfl
                    have y3 : (W2.alloc (.cells (mC x) 56)).cell? ⟨bv, 3, none⟩ = some (.int .i64 v0.a) := hVa.cell 3 _ rfl
                    have y4 : (W2.alloc (.cells (mC x) 56)).cell? ⟨bv, 4, none⟩ = some (.int .i64 v0.e) := hVa.cell 4 _ rfl
                    have y5 : (W2.alloc (.cells (mC x) 56)).cell? ⟨bv, 5, none⟩ = some (.int .i64 v0.z) := hVa.cell 5 _ rfl
                    have hTl : (holdL v0 [x]).length ≤ 1 := holdL_le v0 [x]
                    have hO3 := Own.below hO hba
                    have hR3 := hR.below hba
                    have hB3 := bt_ hB2 hba
                    clear hV hO hR hB2 hba hrd hokx
                    go_wp2_with (first
                      | ((with_reducible refine gate_dst (N := 79) rfl ?_); refine wpList_load_row rfl 56 (.tmp 12) rfl bx rfl 56 (mC x) (0, 0) _ hbx Try.underlying56 rfl (by kernel_rfl) ?_)
                      | ((with_reducible refine gate_dst (N := 80) rfl ?_); refine wpList_lit_msg rfl (.tmp 79) rfl x rfl ?_)
                      | fail)
                    refine (Hold_c _ [x] v0 _ hml (show 1 ≤ 1000 by omega)).mono ?_
                    generalize W2.alloc (.cells (mC x) 56) = W3 at *
                    rintro e w5 ⟨z, rfl, hz5, h5⟩
                    have hV5 := hVa.below h5
                    have hO5 := Own.below hO3 h5
                    have hR5 := hR3.below h5
                    have hB5 := bt_ hB3 h5
                    have hz5r := Own.rk hz5
                    generalize holdL v0 [x] = T at *
                    clear hml hVa hO3 hR3 hB3 hbx y2 y3 y4 y5 m0 hz5 h5
                    have k7 : w5.cell? ⟨bv, 7, none⟩ = some (.slice Ah S.length nh) := hV5.cell 7 _ rfl
                    obtain ⟨At, ct, rfl⟩ := rk_form hz5r
                    go_wp2_with (first
                      | (at_builtin; refine app_many (enc := Value.int .i64) rfl (.tmp 85) (.tmp 86) 53 3 (.int .i64 0) 8 rfl Try.underlying53 infoI rfl (by decide) _ S T _ rfl rfl hO5 hz5r hB5 ?hl ?_; (case hl => omega); intro v1 w1 ho hb hg)
                      | ((with_reducible refine gate_dst (N := 88) rfl ?_); refine halt ?_)
                      | fail)
                    refine ⟨?_⟩
                    have hV6 : Blk w1 bv (vdC en rr v0 mk (.slice Ah S.length nh)) 58 := blk_grown hV5 hg (own_ne (oi_own hO5) hV5 (by decide))
                    have hR6 : Blk w1 br (vdC false false noV 0 (.slice none 0 0)) 58 := blk_grown hR5 hg (own_ne (oi_own hO5) hR5 (by decide))
                    have k8 : w1.cell? ⟨bv, 7, none⟩ = some (.slice Ah S.length nh) := hV6.cell 7 _ rfl
                    have f8 := blk_frozen hV6
                    clear hg k7 hV5 hR5 hB5
                    generalize S ++ T = U at *
                    obtain ⟨A8, c8, rfl⟩ := rk_form (Own.rk ho)
                    have hV7 := Lib.hid (show Blk (w1.setCell ⟨bv, 7, none⟩ (.slice A8 U.length c8)) bv (vdC en rr v0 mk (.slice A8 U.length c8)) 58 from blk_set hV6 7 (.slice A8 U.length c8))
                    have hO7 := Lib.hid (oi_far ho hV6 (by decide) 7 (.slice A8 U.length c8))
                    have hR7 := Lib.hid (hR6.far hnr 7 (.slice A8 U.length c8))
                    have hB7 := Lib.hid (below_set hb (show w.heap.size ≤ bv by omega) (j := 7) (v := .slice A8 U.length c8))
                    clear ho hV6 hR6 hb
                    go_wp2
                    exact ⟨⟨k + 1, _, by omega, by go_num, hV7.out, by rw [hs2.out]; exact hO7.out, hR7.out, hB7.out⟩, by simp [intOf]; omega⟩
                · obtain rfl : k = l.length := by omega
                  rw [List.take_length] at hO hV
                  generalize hS9 : hs14 v0 l = S at *
                  go_wp2_with (first
                    | ((with_reducible refine gate_dst (N := 90) rfl ?_); refine wpList_load_row rfl 58 (.tmp 5) rfl bv rfl 58 (vdC en rr v0 mk (.slice Ah S.length nh)) (0, 0) _ hV Try.underlying58 rfl (by kernel_rfl) ?_)
                    | (refine wpList_store_row rfl 58 (.tmp 4) (.tmp 90) rfl br (vdC en rr v0 mk (.slice Ah S.length nh)) rfl rfl 58 (vdC false false noV 0 (.slice none 0 0)) hR (by kernel_rfl) rfl (by simp [Value.oneCell']) ?_)
                    | fail)
                  refine bodyPost_ret (results_cell_row rfl _ _ br 58 (vdC en rr v0 mk (.slice Ah S.length nh)) (0, 0) _ rfl (setRow_heap _ _ (vdC false false noV 0 (.slice none 0 0)) _ _ (0, 0) hR) Try.underlying58 rfl (by kernel_rfl)) rfl ?_
                  refine ⟨.slice Ah S.length nh, ?_, ?_, ?_⟩
                  · rw [hst.out, hcsE.out, hclE.out]
                    show Ending.returned (.agg (vdC en rr v0 mk (.slice Ah S.length nh))) = .returned (.agg (vdC (decide (p.N - p.W + 1 ≤ ((cs : Nat) : Int))) ((cl == 0) && ((mk == 0) || decide (p.W ≤ ((cntP (msB mk) l : Nat) : Int)))) v0 mk (.slice Ah S.length nh)))
                    rw [hcmE.out, hres.out, henE.out]
                  · rw [hst.out]
                    show Ri _ _ (hs14 v0 l)
                    rw [hS9]
                    exact Own.rk (own_oi (own_other (oi_own hO) (grown_rowM wr br _) (.inr (own_ne (oi_own hO) hR (by decide)).symm)))
                  · exact below_setRow hB (by omega) _
        · have tq1 : (((cl : Nat) : Int) == 0) = false := beq_eq_false_iff_ne.2 (by omega)
          have hres : Hid (((cl == 0) && ((mk == 0) || decide (p.W ≤ ((cm : Nat) : Int)))) = false) := Lib.hid (by rw [show (cl == 0) = false from beq_eq_false_iff_ne.2 hq1]; rfl)
          clear hq1 hclr
          go_upto_region 13 with fail
          refine wp_region_fin 17 [.v (.slice A l.length c), .p (isGn1 (.func (.func 63) #[] #[])), .v (.int .i64 (cl : Nat)), .v (.bool false), .v (.bool false), .v (undef), .v (undef), .v (undef), .v (undef), .v (undef), .v (undef), .v (undef), .v (undef), .v (undef), .v (undef), .v (undef), .v (undef), .p (fun _ _ => True), .v (.pointer (some ⟨bv, 1, none⟩)), .p (fun _ _ => True)] [([], none), ([], none), ([(0, some 51), (1, some 52)], none), ([(2, some 53)], none), ([(3, some 54)], none), ([(4, some 55)], some (some 55, true)), ([(4, some 55), (5, some 56)], some (some 55, true)), ([(4, some 55), (6, some 57)], some (some 55, true)), ([(4, some 55), (7, some 58)], some (some 55, true)), ([(8, some 59)], some (some 59, false)), ([(8, some 59)], some (some 59, false)), ([(8, some 59), (10, some 61)], some (some 59, false)), ([(8, some 59), (9, some 60), (11, some 62)], some (some 59, false)), ([(8, some 59)], some (some 59, false)), ([(8, some 59), (13, some 64)], some (some 59, false)), ([(8, some 59), (12, some 63), (14, some 65)], some (some 59, false)), ([(4, some 55), (8, some 59), (15, some 66)], some (some 55, true)), ([(4, some 55), (16, some 67)], none), ([], none), ([(17, some 68), (18, some 69)], none)] [(0, some 51), (1, some 52), (2, some 53), (3, some 54), (4, some 55), (5, some 56), (6, some 57), (7, some 58), (8, some 59), (9, some 60), (10, some 61), (11, some 62), (12, some 63), (13, some 64), (14, some 65), (15, some 66), (16, some 67), (17, some 68), (18, some 69), (19, none)] (fun _ _ => True) (fun v W => v = .bool false ∧ Below wS.heap.size wS W) (fun W => ∃ W', Below wS.heap.size wS W' ∧ W = W'.setCell ⟨bv, 1, none⟩ (.bool false)) (by kernel_rfl) (by kernel_rfl) (by kernel_rfl) (by kernel_rfl) (by kernel_rfl) (by kernel_rfl) (by exact ⟨trivial, last_Gn1 _, trivial, trivial, trivial, trivial, trivial, trivial, trivial, trivial, trivial, trivial, trivial, trivial, trivial, trivial, trivial, (fun _ _ _ _ _ => trivial), trivial, (fun _ _ _ _ _ => trivial), trivial⟩) (show 17 < 20 by decide) rfl rfl ⟨.inl ⟨by decide, ?s0⟩, .inl (by decide), .inl ⟨by decide, ?s1⟩, .inl (by decide), .inl ⟨by decide, ?s2⟩, .inl (by decide), .inl ⟨by decide, ?s3⟩, .inl (by decide), .inl ⟨by decide, ?s4⟩, .inl (by decide), .inl ⟨by decide, ?s5⟩, .inl (by decide), .inl ⟨by decide, ?s6⟩, .inl (by decide), .inl ⟨by decide, ?s7⟩, .inl (by decide), .inl ⟨by decide, ?s8⟩, .inl (by decide), .inl ⟨by decide, ?s9⟩, .inl (by decide), .inl ⟨by decide, ?s10⟩, .inl (by decide), .inl ⟨by decide, ?s11⟩, .inl (by decide), .inl ⟨by decide, ?s12⟩, .inl (by decide), .inl ⟨by decide, ?s13⟩, .inl (by decide), .inl ⟨by decide, ?s14⟩, .inl (by decide), .inl ⟨by decide, ?s15⟩, .inl (by decide), .inl ⟨by decide, ?s16⟩, .inl (by decide), .inr (.inl ⟨rfl, ?ap⟩), .inl (by decide), .inl ⟨by decide, ?s18⟩, .inr ⟨_, rfl, ?l18⟩, .inr (.inr ⟨rfl, ?sto⟩), .inl (by decide), trivial⟩ ?hQ
          case s0 =>
            intro W hB K hK
            simp only [tellK, Act.put, List.setIfInBounds_toArray, List.set_cons_zero, List.set_cons_succ] at hK ⊢
            refine tell_do rfl ?_
            obtain ⟨c0, c1, c2, c3, c4, c5⟩ := cells6 (HP.below hB); have q6 : W.cell? ⟨bv, 6, none⟩ = some (.int .i64 mk) := (hV.below hB).cell 6 _ rfl
            go_simp
            exact hK _ (Below.refl _ _)
          case s1 =>
            intro W hB K hK
            simp only [tellK, Act.put, List.setIfInBounds_toArray, List.set_cons_zero, List.set_cons_succ] at hK ⊢
            refine tell_do rfl ?_
            obtain ⟨c0, c1, c2, c3, c4, c5⟩ := cells6 (HP.below hB); have q6 : W.cell? ⟨bv, 6, none⟩ = some (.int .i64 mk) := (hV.below hB).cell 6 _ rfl
            go_simp
            exact hK _ _ ⟨W.heap.size, rfl, (Blk.new W #[.func (.func 63) #[] #[]] 98).cell 0 _ rfl⟩ (alloc_b _ _)
          case s2 =>
            intro W hB v1 h1 K hK
            simp only [tellK, Act.put, List.setIfInBounds_toArray, List.set_cons_zero, List.set_cons_succ] at hK ⊢
            refine tell_do rfl ?_
            obtain ⟨c0, c1, c2, c3, c4, c5⟩ := cells6 (HP.below hB); have q6 : W.cell? ⟨bv, 6, none⟩ = some (.int .i64 mk) := (hV.below hB).cell 6 _ rfl
            obtain ⟨g9, rfl, hg9⟩ := h1; go_simp; go_at_call 60; refine (hcl W (hvr.below hB) g9 hg9).out.mono ?_; rintro e W9 ⟨rfl, b9⟩; exact hK _ b9
          case s3 =>
            intro W hB K hK
            simp only [tellK, Act.put, List.setIfInBounds_toArray, List.set_cons_zero, List.set_cons_succ] at hK ⊢
            refine tell_do rfl ?_
            obtain ⟨c0, c1, c2, c3, c4, c5⟩ := cells6 (HP.below hB); have q6 : W.cell? ⟨bv, 6, none⟩ = some (.int .i64 mk) := (hV.below hB).cell 6 _ rfl
            go_simp
            exact hK _ (Below.refl _ _)
          case s4 =>
            intro W hB K hK
            simp only [tellK, Act.put, List.setIfInBounds_toArray, List.set_cons_zero, List.set_cons_succ] at hK ⊢
            refine tell_do rfl ?_
            obtain ⟨c0, c1, c2, c3, c4, c5⟩ := cells6 (HP.below hB); have q6 : W.cell? ⟨bv, 6, none⟩ = some (.int .i64 mk) := (hV.below hB).cell 6 _ rfl
            go_simp
            exact hK _ (Below.refl _ _)
          case s5 =>
            intro W hB K hK
            simp only [tellK, Act.put, List.setIfInBounds_toArray, List.set_cons_zero, List.set_cons_succ] at hK ⊢
            refine tell_not rfl ?_
            exact hK _ (Below.refl _ _)
          case s6 =>
            intro W hB K hK
            simp only [tellK, Act.put, List.setIfInBounds_toArray, List.set_cons_zero, List.set_cons_succ] at hK ⊢
            refine tell_not rfl ?_
            exact hK _ (Below.refl _ _)
          case s7 =>
            intro W hB K hK
            simp only [tellK, Act.put, List.setIfInBounds_toArray, List.set_cons_zero, List.set_cons_succ] at hK ⊢
            refine tell_not rfl ?_
            exact hK _ (Below.refl _ _)
          case s8 =>
            intro W hB K hK
            simp only [tellK, Act.put, List.setIfInBounds_toArray, List.set_cons_zero, List.set_cons_succ] at hK ⊢
            refine tell_not rfl ?_
            exact hK _ (Below.refl _ _)
          case s9 =>
            intro W hB K hK
            simp only [tellK, Act.put, List.setIfInBounds_toArray, List.set_cons_zero, List.set_cons_succ] at hK ⊢
            refine tell_not rfl ?_
            exact hK _ (Below.refl _ _)
          case s10 =>
            intro W hB K hK
            simp only [tellK, Act.put, List.setIfInBounds_toArray, List.set_cons_zero, List.set_cons_succ] at hK ⊢
            refine tell_not rfl ?_
            exact hK _ (Below.refl _ _)
          case s11 =>
            intro W hB K hK
            simp only [tellK, Act.put, List.setIfInBounds_toArray, List.set_cons_zero, List.set_cons_succ] at hK ⊢
            refine tell_not rfl ?_
            exact hK _ (Below.refl _ _)
          case s12 =>
            intro W hB K hK
            simp only [tellK, Act.put, List.setIfInBounds_toArray, List.set_cons_zero, List.set_cons_succ] at hK ⊢
            refine tell_not rfl ?_
            exact hK _ (Below.refl _ _)
          case s13 =>
            intro W hB K hK
            simp only [tellK, Act.put, List.setIfInBounds_toArray, List.set_cons_zero, List.set_cons_succ] at hK ⊢
            refine tell_not rfl ?_
            exact hK _ (Below.refl _ _)
          case s14 =>
            intro W hB K hK
            simp only [tellK, Act.put, List.setIfInBounds_toArray, List.set_cons_zero, List.set_cons_succ] at hK ⊢
            refine tell_not rfl ?_
            exact hK _ (Below.refl _ _)
          case s15 =>
            intro W hB K hK
            simp only [tellK, Act.put, List.setIfInBounds_toArray, List.set_cons_zero, List.set_cons_succ] at hK ⊢
            refine tell_not rfl ?_
            exact hK _ (Below.refl _ _)
          case s16 =>
            intro W hB K hK
            simp only [tellK, Act.put, List.setIfInBounds_toArray, List.set_cons_zero, List.set_cons_succ] at hK ⊢
            refine tell_not rfl ?_
            exact hK _ (Below.refl _ _)
          case s18 =>
            intro W hB K hK
            simp only [tellK, Act.put, List.setIfInBounds_toArray, List.set_cons_zero, List.set_cons_succ] at hK ⊢
            refine tell_do rfl ?_
            obtain ⟨c0, c1, c2, c3, c4, c5⟩ := cells6 (HP.below hB); have q6 : W.cell? ⟨bv, 6, none⟩ = some (.int .i64 mk) := (hV.below hB).cell 6 _ rfl
            go_simp
            exact hK _ (Below.refl _ _)
          case l18 =>
            intro v W hM
            simp only [tellGo]
            intro K hK
            simp only [Act.put, List.setIfInBounds_toArray, List.set_cons_zero, List.set_cons_succ] at hK ⊢
            refine tell_do rfl ?_
            obtain ⟨rfl, hB9⟩ := hM
            go_simp
            exact hK _ _ ⟨rfl, rfl⟩
          case ap =>
            intro W hB K hK
            simp only [Act.put, List.setIfInBounds_toArray, List.set_cons_zero, List.set_cons_succ] at hK ⊢
            refine tell_do rfl ?_
            obtain ⟨c0, c1, c2, c3, c4, c5⟩ := cells6 (HP.below hB); have q6 : W.cell? ⟨bv, 6, none⟩ = some (.int .i64 mk) := (hV.below hB).cell 6 _ rfl
            go_simp
            exact hK _ _ ⟨rfl, hB⟩
          case sto =>
            intro v W hM
            simp only [bareL, List.map_cons, List.map_nil, List.set_cons_zero, List.set_cons_succ, tellGo, sayAt, List.getD_cons_zero, List.getD_cons_succ]
            intro K hK
            simp only [Act.put, List.setIfInBounds_toArray, List.set_cons_zero, List.set_cons_succ] at hK ⊢
            refine tell_do rfl ?_
            obtain ⟨rfl, hB9⟩ := hM
            have a0 := hV.below hB9
            have k0 : W.cell? ⟨bv, 1, none⟩ = some (.bool false) := a0.cell 1 _ rfl
            have f0 := blk_frozen a0
            clear a0
            go_simp
            exact hK undef _ ⟨W, hB9, rfl⟩
          case hQ =>
            intro v W hP
            simp only [bareL, List.map_cons, List.map_nil, List.set_cons_zero, List.set_cons_succ, tellGo, sayAt, List.getD_cons_zero, List.getD_cons_succ]
            intro v1 _ v19 _
            simp only [Act.put, List.setIfInBounds_toArray, List.set_cons_zero, List.set_cons_succ]
            obtain ⟨W', hB', rfl⟩ := hP
            have hV3 : Blk (W'.setCell ⟨bv, 1, none⟩ (.bool false)) bv (vdC en false v0 mk (.slice none 0 0)) 58 := blk_set (hV.below hB') 1 (.bool false)
            have hR3 := (hR.below hB').far hnr 1 (.bool false)
            have hB3 := below_set (bt_ hB hB') (show w.heap.size ≤ bv by omega) (j := 1) (v := .bool false)
            generalize W'.setCell ⟨bv, 1, none⟩ (.bool false) = wT at *
            clear hV hR HP hB hcl hcm hB' hvr
            go_wp2_with fail
            go_loopw [72] (fun i wr => ∃ (k : Nat) (hw : Value), k ≤ l.length ∧ i = .int .i64 k ∧ Blk wr bv (vdC en false v0 mk hw) 58 ∧ Oi w wr hw (hs14 v0 (l.take k)) ∧ Blk wr br (vdC false false noV 0 (.slice none 0 0)) 58 ∧ Below w.heap.size w wr) (fun i _ => l.length - (intOf i).toNat)
            case atStart => exact ⟨0, _, by omega, rfl, hV3, Own.nil _ _ _ _, hR3, hB3⟩
            case round =>
              clear hV3 hR3 hB3
              obtain ⟨k, hw, hk, rfl, hV, hO, hR, hB⟩ := hrel
              obtain ⟨Ah, nh, rfl⟩ := rk_form (Own.rk hO)
              have hv := hvv.out
              by_cases hlt : k < l.length
              · have hsn := hs14_snoc v0 l k hlt
                have hSl := hs14_le v0 (l.take k)
                rw [List.length_take] at hSl
                obtain ⟨ad, rfl, hok, hc⟩ := msg_at (hv.below hB).row k hlt
                have hrd := (hv.rd (l.getD k zM) (by rw [List.getD_eq_getElem?_getD, List.getElem?_eq_getElem hlt]; exact List.getElem_mem _)).below hB
                skip
                generalize l.getD k zM = x at *
                have hz := Blk.new wr zeroC 56
                have hbx := boxM_blk wr x
                have hbb := boxM_below wr x
                replace hrd := hrd.below hbb
                have hB2 := bt_ hB hbb
                have hc2 := Lib.hid hc
                clear hc
                go_upto_region 17 with (first
                  | ((with_reducible refine gate_dst (N := 75) rfl ?_); refine wpList_load_msg rfl (.tmp 74) rfl (ad.add (k * 13)) rfl x hc2.out ?_)
                  | (refine wpList_store_row rfl 56 (.tmp 12) (.tmp 75) rfl wr.heap.size (mC x) rfl rfl 56 zeroC hz (by kernel_rfl) rfl hok.all ?_; change wpList _ _ _ _ _ (boxM wr x))
                  | fail)
                replace hV := hV.below hbb
                replace hR := hR.below hbb
                replace hO := Own.below hO hbb
                have hokx := hok
                generalize hs14 v0 (l.take k) = S at *
                generalize boxM wr x = W2 at *
                generalize wr.heap.size = bx at *
                obtain ⟨m0, _⟩ := mcell hbx
                replace hsn := Lib.hid hsn
                clear hbb hB hz hc2 hv
                generalize hq14 : (x.k == 14) = q14 at *
                cases q14 with
                | false =>
                  have hs2 := Lib.hid (show hs14 v0 (l.take (k + 1)) = S by rw [hsn.out]; simp)
                  clear hbx hrd hokx
                  go_wp2
                  exact ⟨⟨k + 1, _, by omega, by go_num, hV, by rw [hs2.out]; exact hO, hR, hB2⟩, by simp [intOf]; omega⟩
                | true =>
                  have hs2 := Lib.hid (show hs14 v0 (l.take (k + 1)) = S ++ holdL v0 [x] by rw [hsn.out]; simp)
                  have hml := lit_ms W2 x hrd hokx
                  have hba := below_alloc (Below.refl W2.heap.size W2) (.cells (mC x) 56)
                  have hVa := hV.below hba
                  have y2 : (W2.alloc (.cells (mC x) 56)).cell? ⟨bv, 2, none⟩ = some (.bool v0.p) := hVa.cell 2 _ rfl
                  have y3 : (W2.alloc (.cells (mC x) 56)).cell? ⟨bv, 3, none⟩ = some (.int .i64 v0.a) := hVa.cell 3 _ rfl
                  have y4 : (W2.alloc (.cells (mC x) 56)).cell? ⟨bv, 4, none⟩ = some (.int .i64 v0.e) := hVa.cell 4 _ rfl
                  have y5 : (W2.alloc (.cells (mC x) 56)).cell? ⟨bv, 5, none⟩ = some (.int .i64 v0.z) := hVa.cell 5 _ rfl
                  have hTl : (holdL v0 [x]).length ≤ 1 := holdL_le v0 [x]
                  have hO3 := Own.below hO hba
                  have hR3 := hR.below hba
                  have hB3 := bt_ hB2 hba
                  clear hV hO hR hB2 hba hrd hokx
                  go_wp2_with (first
                    | ((with_reducible refine gate_dst (N := 79) rfl ?_); refine wpList_load_row rfl 56 (.tmp 12) rfl bx rfl 56 (mC x) (0, 0) _ hbx Try.underlying56 rfl (by kernel_rfl) ?_)
                    | ((with_reducible refine gate_dst (N := 80) rfl ?_); refine wpList_lit_msg rfl (.tmp 79) rfl x rfl ?_)
                    | fail)
                  refine (Hold_c _ [x] v0 _ hml (show 1 ≤ 1000 by omega)).mono ?_
                  generalize W2.alloc (.cells (mC x) 56) = W3 at *
                  rintro e w5 ⟨z, rfl, hz5, h5⟩
                  have hV5 := hVa.below h5
                  have hO5 := Own.below hO3 h5
                  have hR5 := hR3.below h5
                  have hB5 := bt_ hB3 h5
                  have hz5r := Own.rk hz5
                  generalize holdL v0 [x] = T at *
                  clear hml hVa hO3 hR3 hB3 hbx y2 y3 y4 y5 m0 hz5 h5
                  have k7 : w5.cell? ⟨bv, 7, none⟩ = some (.slice Ah S.length nh) := hV5.cell 7 _ rfl
                  obtain ⟨At, ct, rfl⟩ := rk_form hz5r
                  go_wp2_with (first
                    | (at_builtin; refine app_many (enc := Value.int .i64) rfl (.tmp 85) (.tmp 86) 53 3 (.int .i64 0) 8 rfl Try.underlying53 infoI rfl (by decide) _ S T _ rfl rfl hO5 hz5r hB5 ?hl ?_; (case hl => omega); intro v1 w1 ho hb hg)
                    | ((with_reducible refine gate_dst (N := 88) rfl ?_); refine halt ?_)
                    | fail)
                  refine ⟨?_⟩
                  have hV6 : Blk w1 bv (vdC en false v0 mk (.slice Ah S.length nh)) 58 := blk_grown hV5 hg (own_ne (oi_own hO5) hV5 (by decide))
                  have hR6 : Blk w1 br (vdC false false noV 0 (.slice none 0 0)) 58 := blk_grown hR5 hg (own_ne (oi_own hO5) hR5 (by decide))
                  have k8 : w1.cell? ⟨bv, 7, none⟩ = some (.slice Ah S.length nh) := hV6.cell 7 _ rfl
                  have f8 := blk_frozen hV6
                  clear hg k7 hV5 hR5 hB5
                  generalize S ++ T = U at *
                  obtain ⟨A8, c8, rfl⟩ := rk_form (Own.rk ho)
                  have hV7 := Lib.hid (show Blk (w1.setCell ⟨bv, 7, none⟩ (.slice A8 U.length c8)) bv (vdC en false v0 mk (.slice A8 U.length c8)) 58 from blk_set hV6 7 (.slice A8 U.length c8))
                  have hO7 := Lib.hid (oi_far ho hV6 (by decide) 7 (.slice A8 U.length c8))
                  have hR7 := Lib.hid (hR6.far hnr 7 (.slice A8 U.length c8))
                  have hB7 := Lib.hid (below_set hb (show w.heap.size ≤ bv by omega) (j := 7) (v := .slice A8 U.length c8))
                  clear ho hV6 hR6 hb
                  go_wp2
                  exact ⟨⟨k + 1, _, by omega, by go_num, hV7.out, by rw [hs2.out]; exact hO7.out, hR7.out, hB7.out⟩, by simp [intOf]; omega⟩
              · obtain rfl : k = l.length := by omega
                rw [List.take_length] at hO hV
                generalize hS9 : hs14 v0 l = S at *
                go_wp2_with (first
                  | ((with_reducible refine gate_dst (N := 90) rfl ?_); refine wpList_load_row rfl 58 (.tmp 5) rfl bv rfl 58 (vdC en false v0 mk (.slice Ah S.length nh)) (0, 0) _ hV Try.underlying58 rfl (by kernel_rfl) ?_)
                  | (refine wpList_store_row rfl 58 (.tmp 4) (.tmp 90) rfl br (vdC en false v0 mk (.slice Ah S.length nh)) rfl rfl 58 (vdC false false noV 0 (.slice none 0 0)) hR (by kernel_rfl) rfl (by simp [Value.oneCell']) ?_)
                  | fail)
                refine bodyPost_ret (results_cell_row rfl _ _ br 58 (vdC en false v0 mk (.slice Ah S.length nh)) (0, 0) _ rfl (setRow_heap _ _ (vdC false false noV 0 (.slice none 0 0)) _ _ (0, 0) hR) Try.underlying58 rfl (by kernel_rfl)) rfl ?_
                refine ⟨.slice Ah S.length nh, ?_, ?_, ?_⟩
                · rw [hst.out, hcsE.out, hclE.out]
                  show Ending.returned (.agg (vdC en false v0 mk (.slice Ah S.length nh))) = .returned (.agg (vdC (decide (p.N - p.W + 1 ≤ ((cs : Nat) : Int))) ((cl == 0) && ((mk == 0) || decide (p.W ≤ ((cntP (msB mk) l : Nat) : Int)))) v0 mk (.slice Ah S.length nh)))
                  rw [hcmE.out, hres.out, henE.out]
                · rw [hst.out]
                  show Ri _ _ (hs14 v0 l)
                  rw [hS9]
                  exact Own.rk (own_oi (own_other (oi_own hO) (grown_rowM wr br _) (.inr (own_ne (oi_own hO) hR (by decide)).symm)))
                · exact below_setRow hB (by omega) _
end Go.Proofs.Ytacbenjfiabegaa
