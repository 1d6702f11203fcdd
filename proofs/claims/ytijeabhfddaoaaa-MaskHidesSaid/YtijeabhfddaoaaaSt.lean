/- The walks of package stripe: Join. -/
import Derived.Test.YtijeabhfddaoaaaSl
import Derived.Test.YtijeabhfddaoaaaM11
import Derived.Lib.AppendZeros
namespace Go.Proofs.Ytijeabhfddaoaaa
set_option linter.unusedVariables false
open Go.RowKit Go.Proofs.YtijeabhfddaoaaaW.PrintWords Go.Proofs.Sh

/-- append(nil, n zeros ...), cut to none: a row of one's own with no elements. -/
theorem zeros_own {w0 W : World} (n cap : Nat) (cs : Array Value) (hB : w0.heap.size ≤ W.heap.size) (hc : cs.size = cap) (hm : cap ≤ maxLen) : Ob w0 (W.alloc (.cells cs 5)) (.slice (some ⟨W.heap.size, 0, none⟩) 0 cap) [] := by
  refine b_own ⟨rfl, .inr ⟨W.heap.size, cap, cs, rfl, hB, heap_alloc_new W _, Nat.zero_le _, hm, by rw [Nat.mul_one]; exact hc, by simp⟩⟩
set_option maxRecDepth 100000 in
set_option maxHeartbeats 1600000 in
theorem grow_c (n : Nat) (hn : n ≤ 1000000) (w : World) :
   Calls Try.prog 203 #[.slice none 0 0, .int .i64 (n : Int)] w fun e w' => ∃ z, e = .returned z ∧ Ob w w' z [] ∧ Below w.heap.size w w' := by
  by_cases h0 : n = 0
  · subst h0
    go_enter Try.func203, Try.ntmps203
    go_wp2
    go_ret
    exact ⟨_, rfl, Own.nil _ _ _ _, Below.refl _ _⟩
  · have t1 : (0 : Int) < (n : Int) := by omega
    have t2 : decide ((n : Int) < 0) = false := decide_eq_false (by omega)
    obtain ⟨i0, hi, hzz⟩ := Option.map_eq_some_iff.1 infoB
    simp only [Prod.mk.injEq] at hzz
    obtain ⟨hz0, hz1, hz2⟩ := hzz
    have happ := Lib.run_append_nil_zeros (P := Try.prog) w 40 3 40 5 i0 (.int .u8 0) .i64 .i64 Try.underlying40 Try.underlying3 hi hz0 n (by omega) (by omega) (by omega) (by rw [hz2]; omega)
    generalize hcap : grownCap w n 0 5 = cap2 at happ
    have hcapge : n ≤ cap2 := by rw [← hcap]; exact grownCap_ge w _ 0 5
    have hcaple : cap2 ≤ maxLen := by rw [← hcap]; exact grownCap_le_maxLen w _ 0 5 (by unfold maxLen; omega)
    generalize hZ : (Builtin.zeroCells (Value.int .u8 0).cells n ++ Builtin.zeroCells (Value.int .u8 0).cells (cap2 - n)) = Z at happ
    have hZs : Z.size = cap2 := by rw [← hZ]; simp [size_zeroCells, Value.cells]; omega
    have hO := zeros_own (w0 := w) (W := w.drew) n cap2 Z (Nat.le_refl _) hZs hcaple
    have hB : Below w.heap.size w (w.drew.alloc (.cells Z 5)) := below_alloc (below_drew (Below.refl _ _)) _
    have hcaple2 : (cap2 : Int) ≤ 9223372036854775807 := by unfold maxLen at hcaple; omega
    have hc0 : (0 : Int) ≤ (cap2 : Int) := by omega
    clear hcap hZ hcaple
    replace happ := Lib.hid happ
    go_enter Try.func203, Try.ntmps203
    go_wp2_with (at_builtin; refine Lib.wpList_append_run _ rfl _ _ _ _ rfl _ _ rfl rfl _ _ happ.out ?_)
    go_ret
    exact ⟨_, rfl, hO, hB⟩
theorem flat_take_succ (l : List (List F)) (k : Nat) (h : k < l.length) : (l.take (k + 1)).flatten = (l.take k).flatten ++ l.getD k [] := by
  rw [take_snoc' l k [] h, List.flatten_append]
  simp
theorem flat_take_le (l : List (List F)) (k : Nat) : (l.take k).flatten.length ≤ l.flatten.length := by
  conv => rhs; rw [← List.take_append_drop k l]
  rw [List.flatten_append, List.length_append]
  omega
set_option maxRecDepth 100000 in
set_option maxHeartbeats 1600000 in
theorem concat_c (v : Value) (l : List (List F)) (w : World) (hv : Rbb w v l) (b1 : l.flatten.length ≤ 1000000) (b2 : ∀ r ∈ l, 0 < r.length) :
   Calls Try.prog 167 #[v] w fun e w' => ∃ z, e = .returned z ∧ Ob w w' z l.flatten ∧ Below w.heap.size w w' := by
  obtain ⟨A, c, rfl, hc, hr⟩ := hv
  have hll : l.length ≤ 9223372036854775807 := hr.2.1
  replace b2 := Lib.hid b2
  have htl := Lib.hid (fun k => Nat.le_trans (flat_take_le l k) b1)
  go_enter Try.func167, Try.ntmps167
  go_wp2
  go_loop [3, 5, 11] (fun s _ i => ∃ (k n : Nat), k ≤ l.length ∧ i = .int .i64 k ∧ s = .int .i64 n ∧ n ≤ 1000000 ∧ Hid (n = (l.take k).flatten.length)) (fun _ _ i => l.length - (intOf i).toNat)
  case atStart => exact ⟨0, 0, by omega, rfl, rfl, by omega, Lib.hid (by simp)⟩
  case round =>
    obtain ⟨k, n, hk, rfl, rfl, hn, hn2⟩ := hrel
    by_cases hlt : k < l.length
    · obtain ⟨ad, u, rfl, d0, hu⟩ := kbb_at hr k hlt
      have hst : (l.take (k + 1)).flatten.length = n + (l.getD k []).length := by rw [flat_take_succ l k hlt, List.length_append, hn2.out]
      have hbound : n + (l.getD k []).length ≤ 1000000 := by rw [← hst]; exact htl.out (k + 1)
      replace hst := Lib.hid hst
      generalize l.getD k [] = r at *
      obtain ⟨A5, c5, rfl⟩ := rk_form hu
      have t2 : decide ((n : Int) + (r.length : Int) < 0) = false := decide_eq_false (by omega)
      go_wp2
      exact ⟨⟨k + 1, n + r.length, by omega, by go_num, by rw [Int.natCast_add], hbound, Lib.hid hst.out.symm⟩, by simp [intOf]; try omega⟩
    · obtain rfl : k = l.length := by omega
      go_wp2_with fail
      refine (grow_c n hn w).mono ?_
      rintro e w1 ⟨z, rfl, hO, hB⟩
      go_wp2_with fail
      go_loopw [6, 8, 27] (fun s _ i wr => ∃ k : Nat, k ≤ l.length ∧ i = .int .i64 k ∧ Ob w wr s (l.take k).flatten ∧ Below w.heap.size w wr) (fun _ _ i _ => l.length - (intOf i).toNat)
      case atStart => exact ⟨0, by omega, rfl, hO, hB⟩
      case round =>
        clear hO hB
        obtain ⟨k, hk, rfl, hO, hB⟩ := hrel
        by_cases hlt : k < l.length
        · obtain ⟨ad, u, rfl, d0, hu⟩ := kbb_at hr k hlt
          have d0 := pw_cell_below hB d0
          have hu := hu.below hB
          have HS := Lib.hid (flat_take_succ l k hlt)
          have hr0 : Hid (0 < (l.getD k []).length) := Lib.hid (b2.out _ (by rw [List.getD_eq_getElem?_getD, List.getElem?_eq_getElem hlt]; exact List.getElem_mem hlt))
          have hbound : Hid ((l.take k).flatten.length + (l.getD k []).length ≤ 1000000000) := Lib.hid (by
            have := htl.out (k + 1)
            rw [HS.out, List.length_append] at this
            omega)
          generalize l.getD k [] = r at *
          obtain ⟨A5, c5, rfl⟩ := rk_form hu
          go_wp2_with (at_builtin; refine wpList_app_b (w0 := w) rfl (.tmp 31) (.tmp 32) rfl _ (l.take k).flatten _ r rfl rfl hO hu hr0.out hB hbound.out ?_; intro v1 w1 ho hb hg)
          exact ⟨⟨k + 1, by omega, by go_num, by rw [HS.out]; exact ho, hb⟩, by simp [intOf]; try omega⟩
        · obtain rfl : k = l.length := by omega
          rw [List.take_length] at hO
          go_wp2
          go_ret
          exact ⟨_, rfl, hO, hB⟩
/-! ### Join -/
/-- Does a row not have so many bytes? -/
def bad3 (n : Int) (r : List F) : Bool := (r.length : Int) != n
set_option maxHeartbeats 400000 in
theorem join1_c (n : Int) (b : Nat) (u : Value) (r : List F) (w : World) (hc : w.cell? ⟨b, 2, none⟩ = some (.int .i64 n)) (hu : Rb w u r) :
   Calls Try.prog 166 #[u, .pointer (some ⟨b, 0, none⟩)] w fun e w' => e = .returned (.bool (bad3 n r)) ∧ w = w' := by
  obtain ⟨A, c, rfl, hc2, hr⟩ := hu
  have hb : Hid (bad3 n r = ((r.length : Int) != n)) := Lib.hid rfl
  go_enter Try.func166, Try.ntmps166
  go_wp2
  go_ret
  rw [hb.out]
  exact ⟨rfl, rfl⟩
/-- Are stripes as many, and as long, as they ought to be? -/
def fitsJ (p : Pl) (l : List (List F)) (size : Int) : Prop := (l.length : Int) = stripesOf p size ∧ l.any (bad3 p.L) = false
instance (p : Pl) (l : List (List F)) (size : Int) : Decidable (fitsJ p l size) := inferInstanceAs (Decidable (_ ∧ _))
set_option maxRecDepth 100000 in
set_option maxHeartbeats 1600000 in
theorem sJoin_no (p : Pl) (h : ¬ p.Ok) (v : Value) (l : List (List F)) (n : Int) (w : World) (hv : Rbb w v l) :
   Calls Try.prog 88 #[planV p, v, .int .i64 n] w fun e w' => e = .returned (.tuple #[.slice none 0 0, .int .i64 1]) ∧ Below w.heap.size w w' := by
  have HP := Blk.new w (planC p) 33
  have hB := below_alloc (Below.refl w.heap.size w) (.cells (planC p) 33)
  have hv := hv.below hB
  obtain ⟨A, c, rfl, hc, hr⟩ := hv
  have hv : Rbb _ (.slice A l.length c) l := ⟨A, c, rfl, hc, hr⟩
  go_enter Try.func88, Try.ntmps88
  go_wp2_with fail
  refine (right_no p h _).mono ?_
  rintro e w1 ⟨rfl, h1⟩
  go_wp2
  go_ret2
  exact ⟨rfl, bt_ hB h1⟩
set_option maxRecDepth 100000 in
set_option maxHeartbeats 1600000 in
theorem sJoin_two (p : Pl) (h : p.Ok) (v : Value) (l : List (List F)) (n : Int) (hn : ¬ (0 ≤ n ∧ n ≤ 240)) (w : World) (hv : Rbb w v l) :
   Calls Try.prog 88 #[planV p, v, .int .i64 n] w fun e w' => e = .returned (.tuple #[.slice none 0 0, .int .i64 2]) ∧ Below w.heap.size w w' := by
  by_cases h0 : n < 0
  · clear hn
    have HP := Blk.new w (planC p) 33
    have hB := below_alloc (Below.refl w.heap.size w) (.cells (planC p) 33)
    have hv := hv.below hB
    obtain ⟨A, c, rfl, hc, hr⟩ := hv
    have hv : Rbb _ (.slice A l.length c) l := ⟨A, c, rfl, hc, hr⟩
    go_enter Try.func88, Try.ntmps88
    go_wp2_with fail
    refine (right_yes p h _).mono ?_
    rintro e w1 ⟨rfl, h1⟩
    go_wp2
    go_ret2
    exact ⟨rfl, bt_ hB h1⟩
  · have t1 : decide (n < 0) = false := decide_eq_false h0
    have t2 : 240 < n := by omega
    clear hn
    have HP := Blk.new w (planC p) 33
    have hB := below_alloc (Below.refl w.heap.size w) (.cells (planC p) 33)
    have hv := hv.below hB
    obtain ⟨A, c, rfl, hc, hr⟩ := hv
    have hv : Rbb _ (.slice A l.length c) l := ⟨A, c, rfl, hc, hr⟩
    go_enter Try.func88, Try.ntmps88
    go_wp2_with fail
    refine (right_yes p h _).mono ?_
    rintro e w1 ⟨rfl, h1⟩
    go_wp2
    go_ret2
    exact ⟨rfl, bt_ hB h1⟩
set_option maxRecDepth 100000 in
set_option maxHeartbeats 1600000 in
theorem sJoin_form (p : Pl) (h : p.Ok) (v : Value) (l : List (List F)) (n : Int) (hn : 0 ≤ n ∧ n ≤ 240) (w : World) (hv : Rbb w v l) (hbad : ¬ fitsJ p l n) :
   Calls Try.prog 88 #[planV p, v, .int .i64 n] w fun e w' => e = .returned (.tuple #[.slice none 0 0, .int .i64 3]) ∧ Below w.heap.size w w' := by
  by_cases hs : (l.length : Int) = stripesOf p n
  · have t3 : ((l.length : Int) != stripesOf p n) = false := by rw [hs]; simp
    have hf : Hid (l.any (bad3 p.L) = true) := Lib.hid (by
      cases hb : l.any (bad3 p.L) with
      | true => rfl
      | false => exact (hbad ⟨hs, hb⟩).elim)
    clear hbad hs
    have t1 : decide (n < 0) = false := decide_eq_false (by omega)
    have t2 : decide (240 < n) = false := decide_eq_false (by omega)
    have HP := Blk.new w (planC p) 33
    have hB := below_alloc (Below.refl w.heap.size w) (.cells (planC p) 33)
    have hv := hv.below hB
    obtain ⟨A, c, rfl, hc, hr⟩ := hv
    have hv : Rbb _ (.slice A l.length c) l := ⟨A, c, rfl, hc, hr⟩
    go_enter Try.func88, Try.ntmps88
    go_wp2_with fail
    refine (right_yes p h _).mono ?_
    rintro e w1 ⟨rfl, h1⟩
    have HP := HP.below h1
    have hB := bt_ hB h1
    have hv := hv.below h1
    obtain ⟨c0, c1, c2, c3, c4, c5⟩ := cells6 HP
    go_wp2_with fail
    refine (stripes_yes p h n _).mono ?_
    rintro e w2 ⟨rfl, h2⟩
    have HP := HP.below h2
    have hB := bt_ hB h2
    have hv := hv.below h2
    obtain ⟨c0, c1, c2, c3, c4, c5⟩ := cells6 HP
    clear h1 h2 hr
    go_wp2_with fail
    refine (cfRows_join _ (bad3 p.L) _ l _ hv (fun u r hr9 hu9 => join1_c p.L _ u r _ c2 hu9)).mono ?_
    rintro e w4 ⟨rfl, rfl⟩
    rw [hf.out]
    go_wp2
    go_ret2
    exact ⟨rfl, hB⟩
  · have t3 : ((l.length : Int) != stripesOf p n) = true := bne_iff_ne.2 hs
    clear hbad
    have t1 : decide (n < 0) = false := decide_eq_false (by omega)
    have t2 : decide (240 < n) = false := decide_eq_false (by omega)
    have HP := Blk.new w (planC p) 33
    have hB := below_alloc (Below.refl w.heap.size w) (.cells (planC p) 33)
    have hv := hv.below hB
    obtain ⟨A, c, rfl, hc, hr⟩ := hv
    have hv : Rbb _ (.slice A l.length c) l := ⟨A, c, rfl, hc, hr⟩
    go_enter Try.func88, Try.ntmps88
    go_wp2_with fail
    refine (right_yes p h _).mono ?_
    rintro e w1 ⟨rfl, h1⟩
    have HP := HP.below h1
    have hB := bt_ hB h1
    have hv := hv.below h1
    obtain ⟨c0, c1, c2, c3, c4, c5⟩ := cells6 HP
    go_wp2_with fail
    refine (stripes_yes p h n _).mono ?_
    rintro e w2 ⟨rfl, h2⟩
    have HP := HP.below h2
    have hB := bt_ hB h2
    have hv := hv.below h2
    obtain ⟨c0, c1, c2, c3, c4, c5⟩ := cells6 HP
    clear h1 h2 hr
    go_wp2
    go_ret2
    exact ⟨rfl, hB⟩
theorem bad3_all {n : Int} {l : List (List F)} (h : l.any (bad3 n) = false) : ∀ r ∈ l, (r.length : Int) = n := fun r hr => by
  have h6 : bad3 n r = false := by
    cases hb : bad3 n r with
    | false => rfl
    | true => have := List.any_eq_true.2 ⟨r, hr, hb⟩; rw [h] at this; exact absurd this (by decide)
  unfold bad3 at h6
  simpa using h6
theorem stripes_nat {p : Pl} (h : p.Ok) (n : Nat) (hn : n ≤ 240) : stripesOf p n = (F.nS p.L.toNat n : Int) := by
  have hl := h.l
  obtain ⟨L, hL⟩ : ∃ L : Nat, p.L = L := ⟨p.L.toNat, by omega⟩
  unfold stripesOf F.nS
  rw [hL, Int.toNat_natCast]
  by_cases h0 : 1 ≤ (n : Int) ∧ (n : Int) ≤ 240
  · rw [if_pos h0, Int.natCast_ediv]
    congr 1
    omega
  · rw [if_neg h0]
    have : n = 0 := by omega
    subst this
    rw [Nat.zero_add, Nat.div_eq_of_lt (by omega)]
    rfl
set_option maxRecDepth 100000 in
set_option maxHeartbeats 1600000 in
theorem sJoin_ok (p : Pl) (h : p.Ok) (v : Value) (l : List (List F)) (n : Nat) (hn : (n : Int) ≤ 240) (w : World) (hv : Rbb w v l) (hfit : fitsJ p l n) :
   Calls Try.prog 88 #[planV p, v, .int .i64 n] w fun e w' => ∃ z, e = .returned (.tuple #[z, .int .i64 0]) ∧ Ob w w' z (F.joinOf p.L.toNat l n) ∧ Below w.heap.size w w' := by
  have hn9 : 0 ≤ (n : Int) ∧ (n : Int) ≤ 240 := ⟨by omega, hn⟩
  have t3 : ((l.length : Int) != stripesOf p n) = false := by rw [hfit.1]; simp
  have hf := Lib.hid hfit.2
  have hL : Hid (0 < p.L.toNat ∧ p.L.toNat ≤ 256 ∧ (p.L.toNat : Int) = p.L) := Lib.hid (by have := h.l; have := h.nl; have := h.t; have := h.tl; have := h.wn; omega)
  have hrl : Hid (∀ r ∈ l, r.length = p.L.toNat) := Lib.hid (fun r hr => by have := bad3_all hfit.2 r hr; have := hL.out.2.2; omega)
  have hll : Hid (l.length = F.nS p.L.toNat n) := Lib.hid (by have := hfit.1; rw [stripes_nat h n (by omega)] at this; omega)
  have hls : Hid (n ≤ l.flatten.length ∧ l.flatten.length ≤ 1000000) := Lib.hid (by
    rw [F.flat_len _ l hrl.out, hll.out]
    refine ⟨F.nS_le _ _ hL.out.1, ?_⟩
    have h1 : F.nS p.L.toNat n ≤ n := by
      unfold F.nS
      rw [Nat.div_le_iff_le_mul_add_pred hL.out.1]
      have : n ≤ p.L.toNat * n := Nat.le_mul_of_pos_left n hL.out.1
      omega
    exact Nat.le_trans (Nat.mul_le_mul (Nat.le_trans h1 (by omega : n ≤ 240)) hL.out.2.1) (by decide))
  have hJ : Hid (l.flatten.take n = F.joinOf p.L.toNat l n) := Lib.hid (F.flat_take _ hL.out.1 l hrl.out n (by rw [← F.flat_len _ l hrl.out]; exact hls.out.1))
  clear hfit
  have hn' := hn9
  clear hn9
  obtain ⟨ha, hb9⟩ := hn'
  have t1 : decide (n < 0) = false := decide_eq_false (by omega)
  have t2 : decide (240 < n) = false := decide_eq_false (by omega)
  have HP := Blk.new w (planC p) 33
  have hB := below_alloc (Below.refl w.heap.size w) (.cells (planC p) 33)
  have hv := hv.below hB
  obtain ⟨A, c, rfl, hc, hr⟩ := hv
  have hv : Rbb _ (.slice A l.length c) l := ⟨A, c, rfl, hc, hr⟩
  go_enter Try.func88, Try.ntmps88
  go_wp2_with fail
  refine (right_yes p h _).mono ?_
  rintro e w1 ⟨rfl, h1⟩
  have HP := HP.below h1
  have hB := bt_ hB h1
  have hv := hv.below h1
  obtain ⟨c0, c1, c2, c3, c4, c5⟩ := cells6 HP
  go_wp2_with fail
  refine (stripes_yes p h n _).mono ?_
  rintro e w2 ⟨rfl, h2⟩
  have HP := HP.below h2
  have hB := bt_ hB h2
  have hv := hv.below h2
  obtain ⟨c0, c1, c2, c3, c4, c5⟩ := cells6 HP
  clear h1 h2 hr
  go_wp2_with fail
  refine (cfRows_join _ (bad3 p.L) _ l _ hv (fun u r hr9 hu9 => join1_c p.L _ u r _ c2 hu9)).mono ?_
  rintro e w4 ⟨rfl, rfl⟩
  rw [hf.out]
  go_wp2_with fail
  refine (concat_c _ l _ hv hls.out.2 (fun r hr => by rw [hrl.out r hr]; exact hL.out.1)).mono ?_
  rintro e w5 ⟨z, rfl, hO, h5⟩
  obtain ⟨A9, c9, rfl⟩ := rk_form hO.rk
  obtain ⟨_, hcap⟩ := ob_slice hO
  have hls2 := hls.out
  have s1 : (n : Int) ≤ (c9 : Int) := by omega
  have hOt := Ob.take hO (m := n) hls2.1
  rw [hJ.out] at hOt
  go_wp2
  go_ret2
  exact ⟨_, rfl, hOt.lower hB, bt_ hB h5⟩
end Go.Proofs.Ytijeabhfddaoaaa
