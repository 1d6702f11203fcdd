/- Messages: their cells; the walks of settle's who, value, sound, left, marked. -/
import Derived.Test.YtacbenjfiabegaaFo
import Derived.Test.YtacbenjfiabegaaFp
import Derived.Test.YtacbenjfiabegaaSl
import Derived.Test.YtacbenjfiabegaaR08b
namespace Go.Proofs.Ytacbenjfiabegaa
set_option linter.unusedVariables false
set_option linter.unusedSimpArgs false
open Go.RowKit Go.Proofs.YtacbenjfiabegaaW.PrintWords Go.Proofs.Sh

structure Ms where
  k : Int
  f : Int
  t : Int
  b : Int
  nm : ByteArray
  a : Int
  e : Int
  m : Int
  z : Int
  h : Int
  who : Value
  nms : Value
  dat : Value
  q : List Int
def mC (x : Ms) : Array Value := #[.int .i64 x.k, .int .i64 x.f, .int .i64 x.t, .int .i64 x.b, .string x.nm, .int .i64 x.a, .int .i64 x.e, .int .i64 x.m, .int .i64 x.z, .int .i64 x.h, x.who, x.nms, x.dat]
abbrev mV (x : Ms) : Value := .agg (mC x)
/-- What a message leads to. -/
structure Rd (w : World) (x : Ms) : Prop where
  who : Ri w x.who x.q
  nms : ∃ l, Rk Kd.string w x.nms l
  dat : ∃ l, Rb w x.dat l
theorem Rd.below {w w' : World} {x : Ms} (h : Rd w x) (hb : Below w.heap.size w w') : Rd w' x := by
  obtain ⟨h1, ⟨l, h2⟩, ⟨r, h3⟩⟩ := h
  exact ⟨h1.below hb, ⟨l, Rk.below h2 hb⟩, ⟨r, Rk.below h3 hb⟩⟩
theorem mcell {w : World} {b : Nat} {x : Ms} {t : TypeId} (h : Blk w b (mC x) t) :
    w.cell? ⟨b, 0, none⟩ = some (.int .i64 x.k) ∧ w.cell? ⟨b, 1, none⟩ = some (.int .i64 x.f) ∧ w.cell? ⟨b, 5, none⟩ = some (.int .i64 x.a) ∧ w.cell? ⟨b, 6, none⟩ = some (.int .i64 x.e) ∧ w.cell? ⟨b, 7, none⟩ = some (.int .i64 x.m) ∧ w.cell? ⟨b, 8, none⟩ = some (.int .i64 x.z) ∧ w.cell? ⟨b, 9, none⟩ = some (.int .i64 x.h) ∧ w.cell? ⟨b, 10, none⟩ = some x.who ∧ w.cell? ⟨b, 4, none⟩ = some (.string x.nm) ∧ w.cell? ⟨b, 11, none⟩ = some x.nms ∧ w.cell? ⟨b, 12, none⟩ = some x.dat :=
  ⟨h.cell 0 _ rfl, h.cell 1 _ rfl, h.cell 5 _ rfl, h.cell 6 _ rfl, h.cell 7 _ rfl, h.cell 8 _ rfl, h.cell 9 _ rfl, h.cell 10 _ rfl, h.cell 4 _ rfl, h.cell 11 _ rfl, h.cell 12 _ rfl⟩
def whoN (x : Ms) (i : Nat) : Int := x.q.getD i 0
set_option maxRecDepth 100000 in
set_option maxHeartbeats 1600000 in
theorem who_c (x : Ms) (i : Nat) (w : World) (hi : i ≤ 2) (h : Rd w x) :
   Calls Try.prog 89 #[mV x, .int .i64 (i : Int)] w fun e w' => e = .returned (.int .i64 (whoN x i)) ∧ Below w.heap.size w w' := by
  have hM := Blk.new w (mC x) 56
  have hB := below_alloc (Below.refl w.heap.size w) (.cells (mC x) 56)
  have hr := h.who.below hB
  obtain ⟨A, c, e⟩ := rk_form hr
  have hr := rk_C (by rw [e] at hr; exact hr : Ri _ (.slice A x.q.length c) x.q)
  have hql := ri_len hr
  go_enter Try.func89, Try.ntmps89
  go_upto_region 1 with fail
  generalize w.alloc (.cells (mC x) 56) = w1 at *
  have c10 := (mcell hM).2.2.2.2.2.2.2.1
  rw [e] at c10
  have hwn := Lib.hid (show whoN x i = x.q.getD i 0 from rfl)
  clear hM h e
  by_cases hlt : i < x.q.length
  · have t1 : decide ((i : Int) < (x.q.length : Int)) = true := decide_eq_true (by omega)
    obtain ⟨ad, rfl, d0⟩ := ki_at hr i hlt
    generalize x.q.getD i 0 = y at *
    generalize x.q.length = n at *
    go_wp2
    go_ret
    rw [hwn.out]
    exact ⟨rfl, hB⟩
  · have t1 : decide ((i : Int) < (x.q.length : Int)) = false := decide_eq_false (by omega)
    have h0 : Hid (x.q.getD i 0 = 0) := Lib.hid (by rw [List.getD_eq_getElem?_getD, List.getElem?_eq_none (by omega)]; rfl)
    generalize x.q.length = n at *
    go_wp2
    go_ret
    rw [hwn.out, h0.out]
    exact ⟨rfl, hB⟩
/-- What a message says that counts. -/
def mval (x : Ms) : Vl × Bool := if x.k = 14 then ofM ⟨x.h, ⟨#[]⟩, x.a, x.e, 0, x.z, []⟩ else (⟨false, 0, 0, 0⟩, false)
set_option maxRecDepth 100000 in
set_option maxHeartbeats 1600000 in
theorem value_c (x : Ms) (w : World) :
   Calls Try.prog 58 #[mV x] w fun e w' => e = .returned (.tuple #[valV (mval x).1, .bool (mval x).2]) ∧ Below w.heap.size w w' := by
  have hM := Blk.new w (mC x) 56
  have hB := below_alloc (Below.refl w.heap.size w) (.cells (mC x) 56)
  have hz : (w.alloc (.cells (mC x) 56)).heap.size = w.heap.size + 1 := World.size_alloc _ _
  have hmv := Lib.hid (show mval x = if x.k = 14 then ofM ⟨x.h, ⟨#[]⟩, x.a, x.e, 0, x.z, []⟩ else (⟨false, 0, 0, 0⟩, false) from rfl)
  go_enter Try.func58, Try.ntmps58
  go_upto_region 1 with fail
  generalize w.alloc (.cells (mC x) 56) = w0 at *
  have hb := below_alloc (Below.refl w0.heap.size w0) (.cells #[.bool false, .int .i64 0, .int .i64 0, .int .i64 0] 33)
  have hM2 := hM.below hb
  have fin : ∀ y, Blk (w0.alloc (.cells y 33)) (w.heap.size + 1) y 33 := fun y => Blk.new' w0 y _ hz
  have hB2 := bt_ hB hb
  obtain ⟨c0, c1, c5, c6, c7, c8, c9, _⟩ := mcell hM2
  replace fin := Lib.hid fin
  by_cases h14 : x.k = 14
  · have t1 : (x.k != 14) = false := by rw [h14]; rfl
    rw [if_pos h14] at hmv
    clear h14 hM hM2 hb
    have hof := of_c ⟨x.h, ⟨#[]⟩, x.a, x.e, 0, x.z, []⟩ (.slice none 0 0)
    have hV := fin.out #[.bool false, .int .i64 0, .int .i64 0, .int .i64 0]
    go_wp2_with fail
    refine (hof _).mono ?_
    generalize ofM ⟨x.h, ⟨#[]⟩, x.a, x.e, 0, x.z, []⟩ = o at *
    obtain ⟨v, ok⟩ := o
    rintro e w2 ⟨rfl, h2⟩
    have hV2 := hV.below h2
    have hB3 := bt_ hB2 h2
    have hf2 := blk_frozen hV2
    obtain ⟨d0, d1, d2, d3⟩ : w2.cell? ⟨w.heap.size + 1, 0, none⟩ = some (.bool false) ∧ w2.cell? ⟨w.heap.size + 1, 1, none⟩ = some (.int .i64 0) ∧ w2.cell? ⟨w.heap.size + 1, 2, none⟩ = some (.int .i64 0) ∧ w2.cell? ⟨w.heap.size + 1, 3, none⟩ = some (.int .i64 0) := ⟨hV2.cell 0 _ rfl, hV2.cell 1 _ rfl, hV2.cell 2 _ rfl, hV2.cell 3 _ rfl⟩
    clear hV hB2 h2 c0 c1 c5 c6 c7 c8 c9 hof
    have hV3 : Blk ((((w2.setCell ⟨w.heap.size + 1, 0, none⟩ (.bool v.p)).setCell ⟨w.heap.size + 1, 1, none⟩ (.int .i64 v.a)).setCell ⟨w.heap.size + 1, 2, none⟩ (.int .i64 v.e)).setCell ⟨w.heap.size + 1, 3, none⟩ (.int .i64 v.z)) (w.heap.size + 1) (valC v) 33 := blk_set (blk_set (blk_set (blk_set hV2 0 (.bool v.p)) 1 (.int .i64 v.a)) 2 (.int .i64 v.e)) 3 (.int .i64 v.z)
    have hB4 : Below w.heap.size w ((((w2.setCell ⟨w.heap.size + 1, 0, none⟩ (.bool v.p)).setCell ⟨w.heap.size + 1, 1, none⟩ (.int .i64 v.a)).setCell ⟨w.heap.size + 1, 2, none⟩ (.int .i64 v.e)).setCell ⟨w.heap.size + 1, 3, none⟩ (.int .i64 v.z)) := below_set (below_set (below_set (below_set hB3 (by omega)) (by omega)) (by omega)) (by omega)
    replace hV3 := Lib.hid hV3
    replace hB4 := Lib.hid hB4
    clear hV2 hB3
    go_wp2
    refine bodyPost_ret (results_ct rfl _ _ (w.heap.size + 1) 33 (valC v) (0, 0) _ rfl hV3.out Try.underlying33 rfl (by kernel_rfl)) rfl ?_
    rw [hmv.out]
    exact ⟨rfl, hB4.out⟩
  · have t1 : (x.k != 14) = true := by rw [bne_iff_ne]; exact h14
    rw [if_neg h14] at hmv
    clear h14 hM hM2 hb
    have hBx : ∀ o, Below w.heap.size w (w0.alloc o) := fun o => below_alloc hB o
    replace hBx := Lib.hid hBx
    clear hB2
    go_wp2
    refine bodyPost_ret (results_ct rfl _ _ (w.heap.size + 1) 33 #[.bool false, .int .i64 0, .int .i64 0, .int .i64 0] (0, 0) _ rfl (fin.out _) Try.underlying33 rfl (by kernel_rfl)) rfl ?_
    rw [hmv.out]
    exact ⟨rfl, hBx.out _⟩
def soundB (x : Ms) : Bool := (x.k == 14) && (whoN x 2 == 1)
def leftB (x : Ms) : Bool := (x.k == 14) && ((whoN x 0 != 0) || (whoN x 1 != 0))
def markB (x : Ms) : Bool := (mval x).2
set_option maxRecDepth 100000 in
set_option maxHeartbeats 1600000 in
theorem sound_c (x : Ms) (w : World) (h : Rd w x) :
   Calls Try.prog 61 #[mV x] w fun e w' => e = .returned (.bool (soundB x)) ∧ Below w.heap.size w w' := by
  have hM := Blk.new w (mC x) 56
  have hB := below_alloc (Below.refl w.heap.size w) (.cells (mC x) 56)
  have hr := h.below hB
  have hs := Lib.hid (show soundB x = ((x.k == 14) && (whoN x 2 == 1)) from rfl)
  go_enter Try.func61, Try.ntmps61
  go_upto_region 1 with fail
  generalize w.alloc (.cells (mC x) 56) = w1 at *
  have c0 := (mcell hM).1
  generalize hb : (x.k == 14) = b at *
  cases b with
  | false =>
    go_wp2
    go_ret
    rw [hs.out]
    exact ⟨rfl, hB⟩
  | true =>
    have hw := Lib.hid (who_c x 2 w1 (by omega) hr)
    clear hr h
    go_wp2_with (first | ((with_reducible refine gate_dst (N := 7) rfl ?_); refine wl_wanted (by rfl) ?_; refine wpList_load_row rfl 56 (.tmp 1) rfl w.heap.size rfl 56 (mC x) (0, 0) _ hM Try.underlying56 rfl (by kernel_rfl) ?_) | fail)
    refine hw.out.mono ?_
    rintro e w2 ⟨rfl, h2⟩
    have hB2 := bt_ hB h2
    generalize whoN x 2 = y at *
    clear hB h2 hM hw
    go_wp2
    go_ret
    rw [hs.out]
    exact ⟨by simp, hB2⟩
set_option maxRecDepth 100000 in
set_option maxHeartbeats 1600000 in
theorem left36_c (x : Ms) (w : World) (h : Rd w x) :
   Calls Try.prog 63 #[mV x] w fun e w' => e = .returned (.bool (leftB x)) ∧ Below w.heap.size w w' := by
  have hM := Blk.new w (mC x) 56
  have hB := below_alloc (Below.refl w.heap.size w) (.cells (mC x) 56)
  have hr := h.below hB
  have hs := Lib.hid (show leftB x = ((x.k == 14) && ((whoN x 0 != 0) || (whoN x 1 != 0))) from rfl)
  go_enter Try.func63, Try.ntmps63
  go_upto_region 1 with fail
  generalize w.alloc (.cells (mC x) 56) = w1 at *
  have c0 := (mcell hM).1
  generalize hb : (x.k == 14) = b at *
  cases b with
  | false =>
    go_wp2
    go_ret
    rw [hs.out]
    exact ⟨rfl, hB⟩
  | true =>
    have hw := Lib.hid (who_c x 0 w1 (by omega) hr)
    clear h
    go_wp2_with (first | ((with_reducible refine gate_dst (N := 7) rfl ?_); refine wl_wanted (by rfl) ?_; refine wpList_load_row rfl 56 (.tmp 1) rfl w.heap.size rfl 56 (mC x) (0, 0) _ hM Try.underlying56 rfl (by kernel_rfl) ?_) | fail)
    refine hw.out.mono ?_
    rintro e w2 ⟨rfl, h2⟩
    have hB2 := bt_ hB h2
    have hM2 := hM.below h2
    have hw2 := Lib.hid (who_c x 1 w2 (by omega) (hr.below h2))
    generalize hy0 : (whoN x 0 != 0) = y0 at *
    clear hB h2 hM hw hr c0
    cases y0 with
    | true =>
      go_wp2
      go_ret
      rw [hs.out]
      exact ⟨rfl, hB2⟩
    | false =>
      go_wp2_with (first | ((with_reducible refine gate_dst (N := 11) rfl ?_); refine wl_wanted (by rfl) ?_; refine wpList_load_row rfl 56 (.tmp 1) rfl w.heap.size rfl 56 (mC x) (0, 0) _ hM2 Try.underlying56 rfl (by kernel_rfl) ?_) | fail)
      refine hw2.out.mono ?_
      rintro e w3 ⟨rfl, h3⟩
      have hB3 := bt_ hB2 h3
      clear hB2 h3 hM2 hw2
      go_wp2
      go_ret
      rw [hs.out]
      exact ⟨by simp, hB3⟩
set_option maxRecDepth 100000 in
set_option maxHeartbeats 1600000 in
theorem marked_c (x : Ms) (w : World) :
   Calls Try.prog 64 #[mV x] w fun e w' => e = .returned (.bool (markB x)) ∧ Below w.heap.size w w' := by
  have hM := Blk.new w (mC x) 56
  have hB := below_alloc (Below.refl w.heap.size w) (.cells (mC x) 56)
  have hv := fun W => Lib.hid (value_c x W)
  have hs := Lib.hid (show markB x = (mval x).2 from rfl)
  go_enter Try.func64, Try.ntmps64
  go_upto_region 1 with fail
  generalize w.alloc (.cells (mC x) 56) = w1 at *
  go_wp2_with (first | ((with_reducible refine gate_dst (N := 6) rfl ?_); refine wpList_load_row rfl 56 (.tmp 1) rfl w.heap.size rfl 56 (mC x) (0, 0) _ hM Try.underlying56 rfl (by kernel_rfl) ?_) | fail)
  refine (hv w1).out.mono ?_
  generalize mval x = o at *
  obtain ⟨v, ok⟩ := o
  rintro e w2 ⟨rfl, h2⟩
  have hB2 := bt_ hB h2
  have hBx : ∀ o, Below w.heap.size w (w2.alloc o) := fun o => below_alloc hB2 o
  clear hv hB h2 hM
  go_wp2
  go_ret
  rw [hs.out]
  exact ⟨rfl, hBx _⟩
set_option maxRecDepth 100000 in
set_option maxHeartbeats 1600000 in
theorem same36_c (x : Ms) (bv : Nat) (vm : Int) (w : World) (hv : w.cell? ⟨bv, 6, none⟩ = some (.int .i64 vm)) :
   Calls Try.prog 59 #[mV x, .pointer (some ⟨bv, 0, none⟩)] w fun e w' => e = .returned (.bool (x.m == vm)) ∧ Below w.heap.size w w' := by
  have hM := Blk.new w (mC x) 56
  have hB := below_alloc (Below.refl w.heap.size w) (.cells (mC x) 56)
  have hv := pw_cell_below hB hv
  go_enter Try.func59, Try.ntmps59
  go_upto_region 1 with fail
  generalize w.alloc (.cells (mC x) 56) = w1 at *
  have c7 := (mcell hM).2.2.2.2.1
  generalize (x.m == vm) = q at *
  go_wp2
  go_ret
  exact ⟨rfl, hB⟩
end Go.Proofs.Ytacbenjfiabegaa
