/- Rows of messages; the walks of the law's far. -/
import Derived.Test.YtacbenjfiabegaaUa
import Derived.Laws.Tables
import Derived.Deep.Slices
namespace Go.Proofs.Ytacbenjfiabegaa
set_option linter.unusedVariables false
set_option linter.unusedSimpArgs false
open Go.RowKit Go.Proofs.YtacbenjfiabegaaW.PrintWords Go.Proofs.Sh

/-- The message's slices are slices. -/
structure OkM (x : Ms) : Prop where
  who : ∃ A n c, x.who = .slice A n c
  nms : ∃ A n c, x.nms = .slice A n c
  dat : ∃ A n c, x.dat = .slice A n c
theorem Rd.ok {w : World} {x : Ms} (h : Rd w x) : OkM x := by
  obtain ⟨h1, ⟨l, h2⟩, ⟨r, h3⟩⟩ := h
  obtain ⟨A, c, e1⟩ := rk_form h1
  obtain ⟨B, d, e2⟩ := rk_form h2
  obtain ⟨C, f, e3⟩ := rk_form h3
  exact ⟨⟨_, _, _, e1⟩, ⟨_, _, _, e2⟩, ⟨_, _, _, e3⟩⟩
theorem OkM.all {x : Ms} (h : OkM x) : (mC x).all (·.oneCell') = true := by
  obtain ⟨⟨A, n, c, e1⟩, ⟨B, m, d, e2⟩, ⟨C, k, f, e3⟩⟩ := h
  unfold mC
  rw [e1, e2, e3]
  simp [Value.oneCell']
def km : Kd Ms where
  sz := 13
  E := []
  K := fun _ x cs => cs = (mC x).toList ∧ OkM x
  M := fun _ _ _ x cs => cs = (mC x).toList ∧ OkM x
  K_len := fun h => by rw [h.1]; rfl
  K_one := fun h u hu => by
    rw [h.1] at hu
    have := h.2.all
    rw [Array.all_eq_true_iff_forall_mem] at this
    exact this u (by simpa using hu)
  K_below := fun _ h => h
  K_of_M := fun h => h
  M_mono := fun _ h => h
  M_bound := fun h => h
  M_move := fun _ h => h
  M_lower := fun _ h => h
abbrev Rms (w : World) (v : Value) (l : List Ms) : Prop := Rk km w v l
abbrev zM : Ms := ⟨0, 0, 0, 0, ⟨#[]⟩, 0, 0, 0, 0, 0, .slice none 0 0, .slice none 0 0, .slice none 0 0, []⟩
abbrev zeroC : Array Value := #[.int .i64 0, .int .i64 0, .int .i64 0, .int .i64 0, .string ⟨#[]⟩, .int .i64 0, .int .i64 0, .int .i64 0, .int .i64 0, .int .i64 0, .slice none 0 0, .slice none 0 0, .slice none 0 0]
/-- A message of a row, at its cells. -/
theorem msg_at {w : World} {A : Option Addr} {n c : Nat} {l : List Ms} (h : Rms w (.slice A n c) l) (k : Nat) (hk : k < l.length) :
    ∃ ad, A = some ad ∧ OkM (l.getD k zM) ∧ ∀ j u, (mC (l.getD k zM)).toList[j]? = some u → w.cell? ((ad.add (k * 13)).add j) = some u := by
  have hr := rk_C h
  obtain ⟨ad, rfl, hc⟩ := hr.2.2 (by omega)
  have hg : l[k]? = some (l.getD k zM) := by rw [List.getD_eq_getElem?_getD, List.getElem?_eq_getElem hk]; rfl
  obtain ⟨cs, _, h1, h2⟩ := hc k _ hg
  obtain ⟨h1, h3⟩ : cs = _ ∧ OkM _ := h1
  subst h1
  exact ⟨ad, rfl, h3, fun j u hu => by rw [Go.Deep.add_add]; exact h2 j u hu⟩
theorem run_load_msg (ad : Addr) (x : Ms) (w : World) (hc : ∀ j u, (mC x).toList[j]? = some u → w.cell? (ad.add j) = some u) : (loadVar 56 ad).run Try.prog w = .ok (mV x) w := by
  have hl : (loadCells ad (mC x).toList.length).run Try.prog w = .ok (mC x).toList.toArray w := run_loadCells_list (P := Try.prog) w ad (mC x).toList hc
  have hi : (Try.prog.info? 56).map (·.size) = some 13 := by kernel_rfl
  cases hq : Try.prog.info? 56 with
  | none => rw [hq] at hi; cases hi
  | some i =>
    have hs : i.size = 13 := by simpa [hq] using hi
    have hagg : (isAgg 56).run Try.prog w = .ok true w := by
      unfold isAgg
      rw [Sem.run_bind, run_underlying Try.underlying56 w]
      rfl
    have h13 : (mC x).toList.length = 13 := rfl
    rw [h13] at hl
    simp [loadVar, Sem.run_bind, hagg, sizeOf, typeInfo, hq, hs, hl]
theorem wpList_load_msg {ops : Array Oper} {rest : List Oper} {o : Oper} {a : Act} {w : World} {Q : Exit → Act → World → Prop} (hgd : o.guard = none) (y : Operand) (ho : o.op = .load 56 y)
    (ad : Addr) (hx : a.eval y = .pointer (some ad)) (x : Ms) (hc : ∀ j u, (mC x).toList[j]? = some u → w.cell? (ad.add j) = some u)
    (h : wpList Try.prog ops Q rest (a.put o.dst (mV x)) w) : wpList Try.prog ops Q (o :: rest) a w :=
  wpList_plain hgd fun _ hK => by
    unfold Oper.wp execOp
    simp only [ho, hx, Instr.loadAt, Instr.sureAddr, Sem.run_bind, Sem.run_pure, Result.andThen_ok, run_load_msg ad x w hc]
    exact hK _ _ h
/-- A message's own box. -/
def boxM (w : World) (x : Ms) : World := (w.alloc (.cells zeroC 56)).setRow w.heap.size (mC x)
theorem boxM_blk (w : World) (x : Ms) : Blk (boxM w x) w.heap.size (mC x) 56 := setRow_heap _ _ zeroC _ _ (0, 0) (Blk.new w zeroC 56)
theorem grown_rowM (w : World) (b : Nat) (cs : Array Value) : w.grownBy (w.setRow b cs) (some b) :=
  ⟨rfl, rfl, rfl, by simp, fun i hi hne => setRow_other w b i cs (fun e => hne (by rw [e]))⟩
theorem boxM_below (w : World) (x : Ms) : Below w.heap.size w (boxM w x) := by
  have h := below_alloc (Below.refl w.heap.size w) (.cells zeroC 56)
  have hg := grown_rowM (w.alloc (.cells zeroC 56)) w.heap.size (mC x)
  exact h.grown hg (h.size) (fun k hk => by injection hk with hk; omega)
set_option maxRecDepth 100000 in
set_option maxHeartbeats 1600000 in
theorem far07_c (v : Value) (l : List ByteArray) (w : World) (hv : Rk Kd.string w v l) :
   Calls Try.prog 87 #[v] w fun e w' => (∃ b, e = .returned (.bool b)) ∧ w = w' := by
  obtain ⟨A, c, rfl⟩ := rk_form hv
  have hlm : l.length ≤ 9223372036854775807 := (rk_C hv).2.1
  go_enter Try.func87, Try.ntmps87
  go_wp2_with fail
  go_loopw [3] (fun i wr => ∃ k : Nat, k ≤ l.length ∧ k ≤ 100 ∧ i = .int .i64 k ∧ w = wr) (fun i _ => l.length - (intOf i).toNat)
  case atStart => exact ⟨0, by omega, by omega, rfl, rfl⟩
  case round =>
    obtain ⟨k, hk, hk1, rfl, rfl⟩ := hrel
    by_cases hlt : k < l.length
    · have t1 : decide ((k : Int) < (l.length : Int)) = true := decide_eq_true (by omega)
      by_cases h100 : k < 100
      · have t2 : decide ((k : Int) < 100) = true := decide_eq_true (by omega)
        have hr := rk_C hv
        obtain ⟨ad, rfl, hc⟩ := hr.2.2 (by omega)
        have hg : l[k]? = some (l.getD k ⟨#[]⟩) := by rw [List.getD_eq_getElem?_getD, List.getElem?_eq_getElem hlt]; rfl
        obtain ⟨cs, _, h1, h2⟩ := hc k _ hg
        have h1 : cs = [.string (l.getD k ⟨#[]⟩)] := h1
        subst h1
        have d0 : w.cell? (ad.add k) = some (.string (l.getD k ⟨#[]⟩)) := by
          have := h2 0 _ rfl
          rwa [show k * Kd.string.sz + 0 = k from by show k * 1 + 0 = k; omega] at this
        generalize l.getD k ⟨#[]⟩ = s at *
        clear h2 hc hg
        generalize hq : decide ((40 : Int) < (s.size : Int)) = q at *
        cases q with
        | true =>
          go_wp2
          go_ret
          exact ⟨⟨_, rfl⟩, rfl⟩
        | false =>
          go_wp2
          exact ⟨⟨k + 1, by omega, by omega, by go_num, trivial⟩, by simp [intOf]; omega⟩
      · have t2 : decide ((k : Int) < 100) = false := decide_eq_false (by omega)
        go_wp2
        go_ret
        exact ⟨⟨_, rfl⟩, rfl⟩
    · have t1 : decide ((k : Int) < (l.length : Int)) = false := decide_eq_false (by omega)
      go_wp2
      go_ret
      exact ⟨⟨_, rfl⟩, rfl⟩
set_option maxRecDepth 100000 in
set_option maxHeartbeats 1600000 in
theorem far25_c (x : Ms) (w : World) (h : Rd w x) :
   Calls Try.prog 55 #[mV x] w fun e w' => (∃ b, e = .returned (.bool b)) ∧ Below w.heap.size w w' := by
  have hM := Blk.new w (mC x) 56
  have hB := below_alloc (Below.refl w.heap.size w) (.cells (mC x) 56)
  have hr := h.below hB
  obtain ⟨⟨A, n, c, e1⟩, ⟨B, m, d, e2⟩, ⟨C, k, f, e3⟩⟩ := h.ok
  obtain ⟨nl, hn⟩ := hr.nms
  go_enter Try.func55, Try.ntmps55
  go_upto_region 1 with fail
  generalize w.alloc (.cells (mC x) 56) = w1 at *
  have hf := Lib.hid (far07_c x.nms nl w1 hn)
  obtain ⟨_, _, _, _, _, _, _, c10, c4, c11, c12⟩ := mcell hM
  rw [e1] at c10
  rw [e2] at c11 hf
  rw [e3] at c12
  clear hr h hn
  generalize hq1 : decide ((40 : Int) < (x.nm.size : Int)) = q1 at *
  cases q1 with
  | true =>
    go_wp2
    go_ret
    exact ⟨⟨_, rfl⟩, hB⟩
  | false =>
    generalize hq2 : decide ((300 : Int) < (n : Int)) = q2 at *
    cases q2 with
    | true =>
      go_wp2
      go_ret
      exact ⟨⟨_, rfl⟩, hB⟩
    | false =>
      generalize hq3 : decide ((20 : Int) < (m : Int)) = q3 at *
      cases q3 with
      | true =>
        go_wp2
        go_ret
        exact ⟨⟨_, rfl⟩, hB⟩
      | false =>
        generalize hq4 : decide ((300 : Int) < (k : Int)) = q4 at *
        cases q4 with
        | true =>
          go_wp2
          go_ret
          exact ⟨⟨_, rfl⟩, hB⟩
        | false =>
          go_wp2_with fail
          refine hf.out.mono ?_
          rintro e w2 ⟨⟨b, rfl⟩, rfl⟩
          go_wp2
          go_ret
          exact ⟨⟨_, rfl⟩, hB⟩
/-- A row of messages that is read, with what they lead to. -/
structure Ml (w : World) (v : Value) (l : List Ms) : Prop where
  row : Rms w v l
  rd : ∀ x ∈ l, Rd w x
theorem Ml.below {w w' : World} {v : Value} {l : List Ms} (h : Ml w v l) (hb : Below w.heap.size w w') : Ml w' v l := ⟨Rk.below h.row hb, fun x hx => (h.rd x hx).below hb⟩
set_option maxRecDepth 100000 in
set_option maxHeartbeats 1600000 in
theorem far36_c (v : Value) (l : List Ms) (w : World) (hv : Ml w v l) :
   Calls Try.prog 23 #[v] w fun e w' => (∃ b, e = .returned (.bool b)) ∧ Below w.heap.size w w' := by
  obtain ⟨A, c, rfl⟩ := rk_form hv.row
  have hlm : l.length ≤ 9223372036854775807 := (rk_C hv.row).2.1
  go_enter Try.func23, Try.ntmps23
  go_wp2_with fail
  go_loopw [7] (fun i wr => ∃ k : Nat, k ≤ l.length ∧ i = .int .i64 k ∧ Below w.heap.size w wr) (fun i _ => l.length - (intOf i).toNat)
  case atStart => exact ⟨0, by omega, rfl, Below.refl _ _⟩
  case round =>
    obtain ⟨k, hk, rfl, hB⟩ := hrel
    by_cases hlt : k < l.length
    · obtain ⟨ad, rfl, hok, hc⟩ := msg_at (hv.below hB).row k hlt
      have hrd := (hv.rd (l.getD k zM) (by rw [List.getD_eq_getElem?_getD, List.getElem?_eq_getElem hlt]; exact List.getElem_mem _)).below hB
      generalize l.getD k zM = x at *
      have hz := Blk.new wr zeroC 56
      have hbx := boxM_blk wr x
      have hbb := boxM_below wr x
      have hfx := Lib.hid (far25_c x (boxM wr x) (hrd.below hbb))
      have hB2 := bt_ hB hbb
      have hc2 := Lib.hid hc
      clear hv hc
      go_wp2_with (first
        | ((with_reducible refine gate_dst (N := 10) rfl ?_); refine wpList_load_msg rfl (.tmp 9) rfl (ad.add (k * 13)) rfl x hc2.out ?_)
        | (refine wpList_store_row rfl 56 (.tmp 4) (.tmp 10) rfl wr.heap.size (mC x) rfl rfl 56 zeroC hz (by kernel_rfl) rfl hok.all ?_; (try change wpList _ _ _ _ _ (boxM wr x)))
        | ((with_reducible refine gate_dst (N := 11) rfl ?_); refine wpList_load_row rfl 56 (.tmp 4) rfl wr.heap.size rfl 56 (mC x) (0, 0) _ hbx Try.underlying56 rfl (by kernel_rfl) ?_)
        | fail)
      refine hfx.out.mono ?_
      rintro e w2 ⟨⟨b, rfl⟩, h2⟩
      have hB3 := bt_ hB2 h2
      clear hB hB2 h2 hfx hbx hbb hz hc2
      cases b with
      | true =>
        go_wp2
        go_ret
        exact ⟨⟨_, rfl⟩, hB3⟩
      | false =>
        go_wp2
        exact ⟨⟨k + 1, by omega, by go_num, hB3⟩, by simp [intOf]; omega⟩
    · obtain rfl : k = l.length := by omega
      go_wp2
      go_ret
      exact ⟨⟨_, rfl⟩, hB⟩
end Go.Proofs.Ytacbenjfiabegaa
