/- The walks of container/heap's Push and Pop, of space's runs. -/
import Derived.Test.YtacbenjfiabegaaSb
namespace Go.Proofs.Ytacbenjfiabegaa
set_option linter.unusedVariables false
set_option linter.unusedSimpArgs false
open Go.RowKit Go.Proofs.YtacbenjfiabegaaW.PrintWords Go.Proofs.Sh

theorem rs_Len : (Try.prog.info? 104).bind (fun i => (i.methods.find? (·.name == "Len")).map fun m => (m.path.toList.length, m.func)) = some (0, some (122, false)) := by kernel_rfl
theorem rs_Less : (Try.prog.info? 104).bind (fun i => (i.methods.find? (·.name == "Less")).map fun m => (m.path.toList.length, m.func)) = some (0, some (123, false)) := by kernel_rfl
theorem rs_Swap : (Try.prog.info? 104).bind (fun i => (i.methods.find? (·.name == "Swap")).map fun m => (m.path.toList.length, m.func)) = some (0, some (126, false)) := by kernel_rfl
theorem rs_Push : (Try.prog.info? 104).bind (fun i => (i.methods.find? (·.name == "Push")).map fun m => (m.path.toList.length, m.func)) = some (0, some (125, true)) := by kernel_rfl
theorem rs_Pop : (Try.prog.info? 104).bind (fun i => (i.methods.find? (·.name == "Pop")).map fun m => (m.path.toList.length, m.func)) = some (0, some (124, true)) := by kernel_rfl
theorem ms_Len (b : Nat) (v : Value) (W : World) (hc : W.cell? ⟨b, 0, none⟩ = some v) : (method 265 104 (.pointer (some ⟨b, 0, none⟩)) "Len").run Try.prog W = .ok (122, v) W := meth_val rs_Len Try.underlying104 Try.underlying110 264 _ v W hc
theorem ms_Less (b : Nat) (v : Value) (W : World) (hc : W.cell? ⟨b, 0, none⟩ = some v) : (method 265 104 (.pointer (some ⟨b, 0, none⟩)) "Less").run Try.prog W = .ok (123, v) W := meth_val rs_Less Try.underlying104 Try.underlying110 264 _ v W hc
theorem ms_Swap (b : Nat) (v : Value) (W : World) (hc : W.cell? ⟨b, 0, none⟩ = some v) : (method 265 104 (.pointer (some ⟨b, 0, none⟩)) "Swap").run Try.prog W = .ok (126, v) W := meth_val rs_Swap Try.underlying104 Try.underlying110 264 _ v W hc
theorem ms_Push (v : Value) (W : World) : (method 265 104 v "Push").run Try.prog W = .ok (125, v) W := meth_ptr rs_Push Try.underlying104 264 v W
theorem ms_Pop (v : Value) (W : World) : (method 265 104 v "Pop").run Try.prog W = .ok (124, v) W := meth_ptr rs_Pop Try.underlying104 264 v W
theorem shalf (j : Nat) : ((j : Int) - 1).tdiv 2 = (((j - 1) / 2 : Nat) : Int) := by
  cases j with
  | zero => rfl
  | succ j =>
    rw [show ((j + 1 : Nat) : Int) - 1 = (j : Int) by omega, show j + 1 - 1 = j by omega]
    exact Int.tdiv_eq_ediv_of_nonneg (by omega)
theorem sup_stop {f : Nat} {l : List (Int × Int)} {j : Nat} (h : (j - 1) / 2 = j ∨ ¬ (l.getD j dp).1 < (l.getD ((j - 1) / 2) dp).1) (hf : 0 < f ∨ True) : Hp.upL dp Prod.fst f l j = l := by
  cases f with
  | zero => rfl
  | succ f => exact if_pos h
theorem sup_step {f : Nat} {l : List (Int × Int)} {j : Nat} (e : ¬ (j - 1) / 2 = j) (h : (l.getD j dp).1 < (l.getD ((j - 1) / 2) dp).1) : Hp.upL dp Prod.fst (f + 1) l j = Hp.upL dp Prod.fst f (Hp.sw dp l ((j - 1) / 2) j) ((j - 1) / 2) :=
  if_neg (fun h2 => h2.elim e (fun h3 => h3 h))
set_option maxRecDepth 100000 in
set_option maxHeartbeats 1600000 in
theorem sup_c (b g n c : Nat) (l : List (Int × Int)) (j : Nat) (w0 w : World) (hN : Nr w0 w b (.slice (some ⟨g, 0, none⟩) n c) l) (hB : Below w0.heap.size w0 w) (hl : l.length = n) (hj : j < n) (hn : n ≤ 1000000) :
   Calls Try.prog 100 #[.iface 104 (.pointer (some ⟨b, 0, none⟩)), .int .i64 (j : Int)] w fun e w' => e = .returned (.tuple #[]) ∧ Nr w0 w' b (.slice (some ⟨g, 0, none⟩) n c) (Hp.upL dp Prod.fst j l j) ∧ Below w0.heap.size w0 w' ∧ Kq w0 w w' (.slice (some ⟨g, 0, none⟩) n c) (.slice (some ⟨g, 0, none⟩) n c) := by
  go_enter Try.func100, Try.ntmps100
  go_wp2_with fail
  go_loopw [1] (fun s wr => ∃ (f j' : Nat) (l' : List (Int × Int)), s = .int .i64 j' ∧ j' ≤ f ∧ j' < n ∧ l'.length = n ∧ Hid (Hp.upL dp Prod.fst f l' j' = Hp.upL dp Prod.fst j l j) ∧ Nr w0 wr b (.slice (some ⟨g, 0, none⟩) n c) l' ∧ Below w0.heap.size w0 wr ∧ Kq w0 w wr (.slice (some ⟨g, 0, none⟩) n c) (.slice (some ⟨g, 0, none⟩) n c)) (fun s _ => (intOf s).toNat)
  case atStart => exact ⟨j, j, l, rfl, Nat.le_refl _, hj, hl, Lib.hid rfl, hN, hB, Kq.refl _ _ _⟩
  case round =>
    clear hN hB
    obtain ⟨f, j', l', rfl, hf, hj', hl', hup, hN, hB, hK⟩ := hrel
    have t1 : IntKind.i64.wrap ((j' : Int) - 1) = (j' : Int) - 1 := wrapI _ (by omega) (by omega)
    have t2 := shalf j'
    have t3 : IntKind.i64.wrap (((j' - 1) / 2 : Nat) : Int) = (((j' - 1) / 2 : Nat) : Int) := wrapI _ (by omega) (by omega)
    have c0 := hN.box.one
    have hm := ms_Less b _ wr c0
    by_cases e : (j' - 1) / 2 = j'
    · have hst := Lib.hid (sup_stop (f := f) (l := l') (j := j') (.inl e) (.inr trivial))
      rw [e] at t2 t3
      have t4 : ((j' : Int) == (j' : Int)) = true := beq_self_eq_true _
      clear e hm
      go_wp2
      go_end0
      rw [← hup.out, hst.out]
      exact ⟨rfl, hN, hB, hK⟩
    · have t4 : ((((j' - 1) / 2 : Nat) : Int) == (j' : Int)) = false := beq_eq_false_iff_ne.2 (by omega)
      have hj1 : 1 ≤ j' := by omega
      obtain ⟨f0, rfl⟩ : ∃ f0, f = f0 + 1 := ⟨f - 1, by omega⟩
      have hless := Lib.hid (sLess_c g n c l' j' ((j' - 1) / 2) w0 wr hN.own hl' hj' (by omega))
      have hstep := Lib.hid (fun h => sup_step (f := f0) (l := l') (j := j') e h)
      have hstop := Lib.hid (fun h => sup_stop (f := f0 + 1) (l := l') (j := j') (.inr h) (.inr trivial))
      have hi0 : (j' - 1) / 2 < n ∧ (j' - 1) / 2 < j' ∧ (j' - 1) / 2 ≤ f0 := by omega
      clear e
      generalize (j' - 1) / 2 = i at *
      go_wp2_with fail
      refine hless.out.mono ?_
      rintro e w2 ⟨rfl, h2⟩
      have hN2 := hN.drawn h2.below
      have hB2 := bd hB h2
      have hK2 := hK.trans (Kq.below h2.below)
      have c2 := hN2.box.one
      have hm2 := ms_Swap b _ w2 c2
      clear hN hB hK c0 hm h2
      by_cases hlt : (l'.getD j' dp).1 < (l'.getD i dp).1
      · have hst := Lib.hid (hstep.out hlt)
        rw [decide_eq_true hlt]
        have hsw := Lib.hid (sSwap_c g n c l' i j' w0 w2 hN2.own hB2 hl' hi0.1 hj')
        clear hlt hstep hstop hless
        go_wp2_with fail
        refine hsw.out.mono ?_
        rintro e w3 ⟨rfl, hO3, hg3, hB3⟩
        have hN3 : Nr w0 w3 b (.slice (some ⟨g, 0, none⟩) n c) (Hp.sw dp l' i j') := ⟨hN2.base, blk_grown hN2.box hg3 hN2.ne, hO3⟩
        have hK3 := hK2.trans (Kq.grown (v := .slice (some ⟨g, 0, none⟩) n c) hg3)
        have hup3 : Hid (Hp.upL dp Prod.fst f0 (Hp.sw dp l' i j') i = Hp.upL dp Prod.fst j l j) := Lib.hid (by rw [← hup.out, hst.out])
        have hl3 : (Hp.sw dp l' i j').length = n := by rw [Hp.sw_len]; exact hl'
        clear hsw hN2 hB2 hK2 c2 hm2 hO3 hg3
        generalize Hp.sw dp l' i j' = l3 at *
        go_wp2
        exact ⟨⟨f0, i, l3, rfl, hi0.2.2, hi0.1, hl3, hup3, hN3, hB3, hK3⟩, by simp [intOf]; omega⟩
      · have hst := Lib.hid (hstop.out (by first | exact hlt | exact Int.not_lt.1 hlt))
        rw [decide_eq_false hlt]
        clear hlt hstep hstop hless hm2
        go_wp2
        go_end0
        rw [← hup.out, hst.out]
        exact ⟨rfl, hN2, hB2, hK2⟩
set_option maxRecDepth 100000 in
set_option maxHeartbeats 1600000 in
theorem shPush_c (b : Nat) (v : Value) (l : List (Int × Int)) (y1 y2 : Int) (w0 w : World) (hN : Nr w0 w b v l) (hB : Below w0.heap.size w0 w) (hl : l.length < 1000000) :
   Calls Try.prog 79 #[.iface 104 (.pointer (some ⟨b, 0, none⟩)), .iface 108 (.agg #[.int .i64 y1, .int .i64 y2])] w fun e w' => e = .returned (.tuple #[]) ∧ ∃ v', Nr w0 w' b v' (Hp.pushL dp Prod.fst l (y1, y2)) ∧ Below w0.heap.size w0 w' := by
  have hm := ms_Push (.pointer (some ⟨b, 0, none⟩)) w
  have hp := Lib.hid (sPush_c b v l y1 y2 w0 w hN hB (by omega))
  go_enter Try.func79, Try.ntmps79
  go_wp2_with fail
  refine hp.out.mono ?_
  rintro e w1 ⟨rfl, v1, hN1, hB1⟩
  obtain ⟨g, c, rfl, _, _⟩ := Op.form hN1.own (by simp)
  have hln : (l ++ [(y1, y2)]).length = l.length + 1 := by simp
  rw [hln] at hN1
  have c1 := hN1.box.one
  have hm2 := ms_Len b _ w1 c1
  have t1 : IntKind.i64.wrap (((l.length + 1 : Nat) : Int) - 1) = (l.length : Int) := by rw [wrapI _ (by omega) (by omega)]; omega
  have hup := Lib.hid (sup_c b g (l.length + 1) c (l ++ [(y1, y2)]) l.length w0 w1 hN1 hB1 hln (by omega) (by omega))
  clear hm hp
  go_wp2_with fail
  refine (sLen_c _ _ _ w1).mono ?_
  rintro e w2 ⟨rfl, rfl⟩
  go_wp2_with fail
  refine hup.out.mono ?_
  rintro e w3 ⟨rfl, hN3, hB3, hK3⟩
  go_wp2
  go_end0
  exact ⟨rfl, _, hN3, hB3⟩
theorem sdown_stop {f : Nat} {l : List (Int × Int)} {i n : Nat} (h : n ≤ 2 * i + 1) : Hp.downL dp Prod.fst f l i n = l := by
  cases f with
  | zero => rfl
  | succ f => exact if_pos h
def slower (l : List (Int × Int)) (i n : Nat) : Nat := if 2 * i + 2 < n ∧ (l.getD (2 * i + 2) dp).1 < (l.getD (2 * i + 1) dp).1 then 2 * i + 2 else 2 * i + 1
theorem sdown_go {f : Nat} {l : List (Int × Int)} {i n : Nat} (h : ¬ n ≤ 2 * i + 1) : Hp.downL dp Prod.fst (f + 1) l i n = if (l.getD i dp).1 ≤ (l.getD (slower l i n) dp).1 then l else Hp.downL dp Prod.fst f (Hp.sw dp l i (slower l i n)) (slower l i n) n := by
  have e : Hp.downL dp Prod.fst (f + 1) l i n = if ¬ (l.getD (slower l i n) dp).1 < (l.getD i dp).1 then l else Hp.downL dp Prod.fst f (Hp.sw dp l i (slower l i n)) (slower l i n) n := if_neg h
  rw [e]
  by_cases h2 : (l.getD (slower l i n) dp).1 < (l.getD i dp).1
  · rw [if_neg (fun h => h h2), if_neg (Int.not_le.2 h2)]
  · rw [if_pos h2, if_pos (Int.not_lt.1 h2)]
set_option maxRecDepth 100000 in
set_option maxHeartbeats 1600000 in
theorem sdown_c (b g N n c F : Nat) (l : List (Int × Int)) (i0 : Nat) (w0 w : World) (hN : Nr w0 w b (.slice (some ⟨g, 0, none⟩) N c) l) (hB : Below w0.heap.size w0 w) (hl : l.length = N) (hnN : n ≤ N) (hi : i0 < n ∨ n = 0 ∧ i0 = 0) (hF : n ≤ i0 + F) (hn : N ≤ 1000000) :
   Calls Try.prog 93 #[.iface 104 (.pointer (some ⟨b, 0, none⟩)), .int .i64 (i0 : Int), .int .i64 (n : Int)] w fun e w' => (∃ r, e = .returned r) ∧ Nr w0 w' b (.slice (some ⟨g, 0, none⟩) N c) (Hp.downL dp Prod.fst F l i0 n) ∧ Below w0.heap.size w0 w' ∧ Kq w0 w w' (.slice (some ⟨g, 0, none⟩) N c) (.slice (some ⟨g, 0, none⟩) N c) := by
  go_enter Try.func93, Try.ntmps93
  go_wp2_with fail
  go_loopw [7] (fun s wr => ∃ (f i : Nat) (l' : List (Int × Int)), s = .int .i64 i ∧ n ≤ i + f ∧ (i < n ∨ n = 0 ∧ i = 0) ∧ l'.length = N ∧ Hid (Hp.downL dp Prod.fst f l' i n = Hp.downL dp Prod.fst F l i0 n) ∧ Nr w0 wr b (.slice (some ⟨g, 0, none⟩) N c) l' ∧ Below w0.heap.size w0 wr ∧ Kq w0 w wr (.slice (some ⟨g, 0, none⟩) N c) (.slice (some ⟨g, 0, none⟩) N c)) (fun s _ => n - (intOf s).toNat)
  case atStart => exact ⟨F, i0, l, rfl, hF, hi, hl, Lib.hid rfl, hN, hB, Kq.refl _ _ _⟩
  case round =>
    clear hN hB
    obtain ⟨f, i, l', rfl, hf, hin, hl', hup, hN, hB, hK⟩ := hrel
    have t1 : IntKind.i64.wrap (2 * (i : Int)) = 2 * (i : Int) := wrapI _ (by omega) (by omega)
    have t2 : IntKind.i64.wrap (2 * (i : Int) + 1) = 2 * (i : Int) + 1 := wrapI _ (by omega) (by omega)
    have t3 : IntKind.i64.wrap (2 * (i : Int) + 1 + 1) = 2 * (i : Int) + 1 + 1 := wrapI _ (by omega) (by omega)
    have t5 : decide (2 * (i : Int) + 1 < 0) = false := decide_eq_false (by omega)
    by_cases e : n ≤ 2 * i + 1
    · have t4 : decide ((n : Int) ≤ 2 * (i : Int) + 1) = true := decide_eq_true (by omega)
      have hst := Lib.hid (sdown_stop (f := f) (l := l') (i := i) (n := n) e)
      clear e
      go_wp2
      go_ret
      rw [← hup.out, hst.out]
      exact ⟨⟨_, rfl⟩, hN, hB, hK⟩
    · have t4 : decide ((n : Int) ≤ 2 * (i : Int) + 1) = false := decide_eq_false (by omega)
      obtain ⟨f0, rfl⟩ : ∃ f0, f = f0 + 1 := ⟨f - 1, by omega⟩
      have hstep := sdown_go (f := f0) (l := l') (i := i) (n := n) e
      clear t2 t3 t4 t5
      obtain ⟨j1, hj1⟩ : ∃ j1, j1 = 2 * i + 1 := ⟨_, rfl⟩
      obtain ⟨j2, hj2⟩ : ∃ j2, j2 = 2 * i + 2 := ⟨_, rfl⟩
      have t2 : IntKind.i64.wrap (2 * (i : Int) + 1) = (j1 : Int) := by rw [wrapI _ (by omega) (by omega)]; omega
      have t3 : IntKind.i64.wrap ((j1 : Int) + 1) = (j2 : Int) := by rw [wrapI _ (by omega) (by omega)]; omega
      have t4 : decide ((n : Int) ≤ (j1 : Int)) = false := decide_eq_false (by omega)
      have t5 : decide ((j1 : Int) < 0) = false := decide_eq_false (by omega)
      have hlow : slower l' i n = if j2 < n ∧ (l'.getD j2 dp).1 < (l'.getD j1 dp).1 then j2 else j1 := by rw [hj1, hj2]; rfl
      have hjb := Lib.hid (show i < j1 ∧ i < j2 ∧ j1 < n by omega)
      have t4n : ¬ n ≤ j1 := by omega
      have t4m : j1 < n := by omega
      clear hj1 hj2 e
      by_cases h2 : j2 < n
      · have t6 : decide ((j2 : Int) < (n : Int)) = true := decide_eq_true (by omega)
        have c0 := hN.box.one
        have hm := ms_Less b _ _ c0
        have hls0 := Lib.hid (sLess_c g N c l' j2 j1 w0 _ hN.own hl' (by omega) (by have := hjb.out; omega))
        replace hlow := Lib.hid hlow
        replace hstep := Lib.hid hstep
        go_wp2_with fail
        refine hls0.out.mono ?_
        rintro e w2 ⟨rfl, h9⟩
        have hN2 := hN.drawn h9.below
        have hB2 := bd hB h9
        have hK2 := hK.trans (Kq.below h9.below)
        clear hN hB hK c0 hm h9 hls0
        have hstep := hstep.out
        have hlow := hlow.out
        by_cases h3 : (l'.getD j2 dp).1 < (l'.getD j1 dp).1
        · have hjq : slower l' i n = j2 := by rw [hlow, if_pos ⟨h2, h3⟩]
          rw [decide_eq_true h3]
          clear hlow h3
          have hjn : j2 < n ∧ i < j2 := by have := hjb.out; omega
          have t9 : IntKind.i64.wrap (j2 : Int) = (j2 : Int) := wrapI _ (by omega) (by omega)
          have hls := Lib.hid (sLess_c g N c l' j2 i w0 _ hN2.own hl' (by omega) (by omega))
          have hsw := fun W a b => Lib.hid (sSwap_c g N c l' i j2 w0 W a b hl' (by omega) (by omega))
          have hnf : n ≤ j2 + f0 := by omega
          have c2 := hN2.box.one
          have hm2 := ms_Less b _ _ c2
          rw [hjq] at hstep
          clear hjq
          generalize j2 = j at *
          go_wp2_with fail
          refine hls.out.mono ?_
          rintro e w3 ⟨rfl, h3⟩
          have hN3 := hN2.drawn h3.below
          have hB3 := bd hB2 h3
          have hK3 := hK2.trans (Kq.below h3.below)
          have c3 := hN3.box.one
          have hm3 := ms_Swap b _ w3 c3
          clear hN2 hB2 hK2 c2 hm2 h3 hls
          by_cases hlt : (l'.getD j dp).1 < (l'.getD i dp).1
          · rw [if_neg (Int.not_le.2 hlt)] at hstep
            replace hstep := Lib.hid hstep
            rw [decide_eq_true hlt]
            have hsw := hsw w3 hN3.own hB3
            clear hlt
            go_wp2_with fail
            refine hsw.out.mono ?_
            rintro e w4 ⟨rfl, hO4, hg4, hB4⟩
            have hN4 : Nr w0 w4 b (.slice (some ⟨g, 0, none⟩) N c) (Hp.sw dp l' i j) := ⟨hN3.base, blk_grown hN3.box hg4 hN3.ne, hO4⟩
            have hK4 := hK3.trans (Kq.grown (v := .slice (some ⟨g, 0, none⟩) N c) hg4)
            have hup4 : Hid (Hp.downL dp Prod.fst f0 (Hp.sw dp l' i j) j n = Hp.downL dp Prod.fst F l i0 n) := Lib.hid (by rw [← hup.out, hstep.out])
            have hl4 : (Hp.sw dp l' i j).length = N := by rw [Hp.sw_len]; exact hl'
            clear hsw hN3 hB3 hK3 c3 hm3 hO4 hg4
            generalize Hp.sw dp l' i j = l4 at *
            go_wp2
            exact ⟨⟨f0, j, l4, rfl, hnf, by omega, hl4, hup4, hN4, hB4, hK4⟩, by simp [intOf]; omega⟩
          · rw [if_pos (Int.not_lt.1 hlt)] at hstep
            replace hstep := Lib.hid hstep
            rw [decide_eq_false hlt]
            clear hlt hm3 hsw
            go_wp2
            go_ret
            rw [← hup.out, hstep.out]
            exact ⟨⟨_, rfl⟩, hN3, hB3, hK3⟩
        · have hjq : slower l' i n = j1 := by rw [hlow, if_neg (fun h => h3 h.2)]
          rw [decide_eq_false h3]
          clear hlow h3
          have hjn : j1 < n ∧ i < j1 := by have := hjb.out; omega
          have t9 : IntKind.i64.wrap (j1 : Int) = (j1 : Int) := wrapI _ (by omega) (by omega)
          have hls := Lib.hid (sLess_c g N c l' j1 i w0 _ hN2.own hl' (by omega) (by omega))
          have hsw := fun W a b => Lib.hid (sSwap_c g N c l' i j1 w0 W a b hl' (by omega) (by omega))
          have hnf : n ≤ j1 + f0 := by omega
          have c2 := hN2.box.one
          have hm2 := ms_Less b _ _ c2
          rw [hjq] at hstep
          clear hjq
          generalize j1 = j at *
          go_wp2_with fail
          refine hls.out.mono ?_
          rintro e w3 ⟨rfl, h3⟩
          have hN3 := hN2.drawn h3.below
          have hB3 := bd hB2 h3
          have hK3 := hK2.trans (Kq.below h3.below)
          have c3 := hN3.box.one
          have hm3 := ms_Swap b _ w3 c3
          clear hN2 hB2 hK2 c2 hm2 h3 hls
          by_cases hlt : (l'.getD j dp).1 < (l'.getD i dp).1
          · rw [if_neg (Int.not_le.2 hlt)] at hstep
            replace hstep := Lib.hid hstep
            rw [decide_eq_true hlt]
            have hsw := hsw w3 hN3.own hB3
            clear hlt
            go_wp2_with fail
            refine hsw.out.mono ?_
            rintro e w4 ⟨rfl, hO4, hg4, hB4⟩
            have hN4 : Nr w0 w4 b (.slice (some ⟨g, 0, none⟩) N c) (Hp.sw dp l' i j) := ⟨hN3.base, blk_grown hN3.box hg4 hN3.ne, hO4⟩
            have hK4 := hK3.trans (Kq.grown (v := .slice (some ⟨g, 0, none⟩) N c) hg4)
            have hup4 : Hid (Hp.downL dp Prod.fst f0 (Hp.sw dp l' i j) j n = Hp.downL dp Prod.fst F l i0 n) := Lib.hid (by rw [← hup.out, hstep.out])
            have hl4 : (Hp.sw dp l' i j).length = N := by rw [Hp.sw_len]; exact hl'
            clear hsw hN3 hB3 hK3 c3 hm3 hO4 hg4
            generalize Hp.sw dp l' i j = l4 at *
            go_wp2
            exact ⟨⟨f0, j, l4, rfl, hnf, by omega, hl4, hup4, hN4, hB4, hK4⟩, by simp [intOf]; omega⟩
          · rw [if_pos (Int.not_lt.1 hlt)] at hstep
            replace hstep := Lib.hid hstep
            rw [decide_eq_false hlt]
            clear hlt hm3 hsw
            go_wp2
            go_ret
            rw [← hup.out, hstep.out]
            exact ⟨⟨_, rfl⟩, hN3, hB3, hK3⟩
      · have t6 : decide ((j2 : Int) < (n : Int)) = false := decide_eq_false (by omega)
        have hjq : slower l' i n = j1 := by rw [hlow, if_neg (fun h => h2 h.1)]
        have hN2 := hN
        have hB2 := hB
        have hK2 := hK
        clear hN hB hK hlow
        have hjn : j1 < n ∧ i < j1 := by have := hjb.out; omega
        have t9 : IntKind.i64.wrap (j1 : Int) = (j1 : Int) := wrapI _ (by omega) (by omega)
        have hls := Lib.hid (sLess_c g N c l' j1 i w0 _ hN2.own hl' (by omega) (by omega))
        have hsw := fun W a b => Lib.hid (sSwap_c g N c l' i j1 w0 W a b hl' (by omega) (by omega))
        have hnf : n ≤ j1 + f0 := by omega
        have c2 := hN2.box.one
        have hm2 := ms_Less b _ _ c2
        rw [hjq] at hstep
        clear hjq
        generalize j1 = j at *
        go_wp2_with fail
        refine hls.out.mono ?_
        rintro e w3 ⟨rfl, h3⟩
        have hN3 := hN2.drawn h3.below
        have hB3 := bd hB2 h3
        have hK3 := hK2.trans (Kq.below h3.below)
        have c3 := hN3.box.one
        have hm3 := ms_Swap b _ w3 c3
        clear hN2 hB2 hK2 c2 hm2 h3 hls
        by_cases hlt : (l'.getD j dp).1 < (l'.getD i dp).1
        · rw [if_neg (Int.not_le.2 hlt)] at hstep
          replace hstep := Lib.hid hstep
          rw [decide_eq_true hlt]
          have hsw := hsw w3 hN3.own hB3
          clear hlt
          go_wp2_with fail
          refine hsw.out.mono ?_
          rintro e w4 ⟨rfl, hO4, hg4, hB4⟩
          have hN4 : Nr w0 w4 b (.slice (some ⟨g, 0, none⟩) N c) (Hp.sw dp l' i j) := ⟨hN3.base, blk_grown hN3.box hg4 hN3.ne, hO4⟩
          have hK4 := hK3.trans (Kq.grown (v := .slice (some ⟨g, 0, none⟩) N c) hg4)
          have hup4 : Hid (Hp.downL dp Prod.fst f0 (Hp.sw dp l' i j) j n = Hp.downL dp Prod.fst F l i0 n) := Lib.hid (by rw [← hup.out, hstep.out])
          have hl4 : (Hp.sw dp l' i j).length = N := by rw [Hp.sw_len]; exact hl'
          clear hsw hN3 hB3 hK3 c3 hm3 hO4 hg4
          generalize Hp.sw dp l' i j = l4 at *
          go_wp2
          exact ⟨⟨f0, j, l4, rfl, hnf, by omega, hl4, hup4, hN4, hB4, hK4⟩, by simp [intOf]; omega⟩
        · rw [if_pos (Int.not_lt.1 hlt)] at hstep
          replace hstep := Lib.hid hstep
          rw [decide_eq_false hlt]
          clear hlt hm3 hsw
          go_wp2
          go_ret
          rw [← hup.out, hstep.out]
          exact ⟨⟨_, rfl⟩, hN3, hB3, hK3⟩
set_option maxRecDepth 100000 in
set_option maxHeartbeats 1600000 in
theorem shPop_c (b g n c : Nat) (l : List (Int × Int)) (w0 w : World) (hN : Nr w0 w b (.slice (some ⟨g, 0, none⟩) (n + 1) c) l) (hB : Below w0.heap.size w0 w) (hl : l.length = n + 1) (hn : n < 1000000) (hH : Hp.IsHeap dp Prod.fst l l.length) :
   Calls Try.prog 68 #[.iface 104 (.pointer (some ⟨b, 0, none⟩))] w fun e w' => e = .returned (.iface 108 (.agg #[.int .i64 (l.getD 0 dp).1, .int .i64 (l.getD 0 dp).2])) ∧ Nr w0 w' b (.slice (some ⟨g, 0, none⟩) n c) ((Hp.popL dp Prod.fst l).take n) ∧ Below w0.heap.size w0 w' ∧ Kq w0 w w' (.slice (some ⟨g, 0, none⟩) (n + 1) c) (.slice (some ⟨g, 0, none⟩) n c) := by
  obtain ⟨q1, q2, _, _, _⟩ := Hp.pop_ok dp Prod.fst l (by omega) hH
  have hpl : Hid (Hp.popL dp Prod.fst l = Hp.downL dp Prod.fst (n + 1) (Hp.sw dp l 0 n) 0 n) := Lib.hid (by unfold Hp.popL; rw [hl]; rfl)
  rw [hl, Nat.add_sub_cancel] at q2
  rw [hl] at q1
  generalize l.getD 0 dp = y at q2 ⊢
  obtain ⟨y1, y2⟩ := y
  have c0 := hN.box.one
  have hm0 := ms_Len b _ w c0
  have t1 : IntKind.i64.wrap (((n + 1 : Nat) : Int) - 1) = (n : Int) := by rw [wrapI _ (by omega) (by omega)]; omega
  have t1b : IntKind.i64.wrap (((n : Int) + 1) - 1) = (n : Int) := by rw [wrapI _ (by omega) (by omega)]; omega
  have hs := Lib.hid (sSwap_c g (n + 1) c l 0 n w0 w hN.own hB hl (by omega) (by omega))
  replace q1 := Lib.hid q1
  replace q2 := Lib.hid q2
  clear hH
  go_enter Try.func68, Try.ntmps68
  go_wp2_with fail
  refine (sLen_c _ _ _ w).mono ?_
  rintro e w1 ⟨rfl, rfl⟩
  have hm1 := ms_Swap b _ w c0
  clear hm0
  go_wp2_with fail
  refine hs.out.mono ?_
  rintro e w2 ⟨rfl, hO2, hg2, hB2⟩
  have hN2 : Nr w0 w2 b (.slice (some ⟨g, 0, none⟩) (n + 1) c) (Hp.sw dp l 0 n) := ⟨hN.base, blk_grown hN.box hg2 hN.ne, hO2⟩
  have hK2 : Kq w0 w w2 (.slice (some ⟨g, 0, none⟩) (n + 1) c) (.slice (some ⟨g, 0, none⟩) (n + 1) c) := Kq.grown hg2
  have hd := Lib.hid (sdown_c b g (n + 1) n c (n + 1) (Hp.sw dp l 0 n) 0 w0 w2 hN2 hB2 (by rw [Hp.sw_len]; exact hl) (by omega) (by omega) (by omega) (by omega))
  rw [← hpl.out] at hd
  clear hs hm1 c0 hN hB hO2 hg2 hN2 hB2
  go_wp2_with fail
  refine hd.out.mono ?_
  rintro e w3 ⟨⟨r, rfl⟩, hN3, hB3, hK3⟩
  have hm3 := ms_Pop (.pointer (some ⟨b, 0, none⟩)) w3
  have hp := Lib.hid (sPop_c b g n c (Hp.popL dp Prod.fst l) w0 w3 hN3 hB3 q1.out)
  rw [q2.out] at hp
  clear hd
  go_wp2_with fail
  refine hp.out.mono ?_
  rintro e w4 ⟨rfl, hN4, hB4, hK4⟩
  go_wp2
  go_ret
  exact ⟨rfl, hN4, hB4, (hK2.trans hK3).trans hK4⟩
end Go.Proofs.Ytacbenjfiabegaa
