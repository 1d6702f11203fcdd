/- The walks of space: all, set, Use, Give, Is. -/
import Derived.Test.YtacbenjfiabegaaSd
namespace Go.Proofs.Ytacbenjfiabegaa
set_option linter.unusedVariables false
set_option linter.unusedSimpArgs false
open Go.RowKit Go.Proofs.YtacbenjfiabegaaW.PrintWords Go.Proofs.Sh

theorem cutM_l (ad : Addr) (n c lo m : Nat) (h1 : lo + m ≤ n) (hc : n ≤ c) (h0 : lo < c) (W : World) : (Instr.slice 50 (.slice (some ad) n c) (some (.int .i64 lo)) (some (.int .i64 ((lo + m : Nat) : Int))) none).run Try.prog W = .ok (.slice (some (ad.add lo)) m (c - lo)) W := by
  obtain ⟨i0, hi, hzz⟩ := Option.map_eq_some_iff.1 infoBool
  simp only [Prod.mk.injEq] at hzz
  obtain ⟨_, hsz, _⟩ := hzz
  have hel : Try.prog.elem 50 = 4 := by simp [Program.elem, Try.underlying50]
  have hu : Try.prog.underlying 50 = some (.slice (Try.prog.elem 50)) := by rw [hel]; exact Try.underlying50
  rw [run_slice_lh W 50 (some ad) n c hu .i64 .i64 lo ((lo + m : Nat) : Int) (by omega) (by omega) (by omega), hel]
  have e : ¬ c = lo := by omega
  simp [sizeOf, typeInfo, hi, hsz, sliced, Result.andThen, e]
  omega
theorem rl_mid {w : World} {ad : Addr} {n c : Nat} {l : List Bool} (h : Rl w (.slice (some ad) n c) l) (lo k : Nat) (h1 : lo + k ≤ l.length) (h2 : lo < c) :
    Rl w (.slice (some (ad.add lo)) k (c - lo)) ((l.drop lo).take k) := by
  have hr := rk_C h
  have hc := rk_cap h
  have := Kd.C_mid (c := c) hr (Nat.le_add_right lo k) h1 hc
  rw [if_neg (by omega)] at this
  have e : (l.take (lo + k)).drop lo = (l.drop lo).take k := by rw [List.drop_take]; congr 1; omega
  rw [e] at this
  refine ⟨some (ad.add lo), c - lo, ?_, ?_, ?_⟩
  · rw [List.length_take, List.length_drop, Nat.min_eq_left (by omega)]
  · rw [List.length_take, List.length_drop]; omega
  · have hm : (Option.map (fun x => x.add (lo * Kd.bool.sz)) (some ad)) = some (ad.add lo) := by
      show some (ad.add (lo * 1)) = _
      rw [Nat.mul_one]
    rw [hm] at this
    exact this
set_option maxRecDepth 100000 in
set_option maxHeartbeats 1600000 in
theorem all_c (p : Value) (l : List Bool) (a n : Int) (f : Bool) (w : World) (h : Rs w p l) :
   Calls Try.prog 71 #[p, .int .i64 a, .int .i64 n, .bool f] w fun e w' => e = .returned (.bool (allB l a n f)) ∧ w = w' := by
  have hlm := h.len
  have hs := Lib.hid (slots_c p l w h)
  by_cases h1 : n < 1
  · have e1 : Hid (allB l a n f = false) := Lib.hid (by unfold allB; rw [decide_eq_false (by omega)]; rfl)
    have t1 : decide (n < 1) = true := decide_eq_true h1
    go_enter Try.func71, Try.ntmps71
    go_wp2
    go_ret
    rw [e1.out]
    exact ⟨rfl, rfl⟩
  have t1 : decide (n < 1) = false := decide_eq_false h1
  by_cases h2 : a < 0
  · have e1 : Hid (allB l a n f = false) := Lib.hid (by unfold allB; rw [decide_eq_false (by omega)]; rfl)
    have t2 : decide (a < 0) = true := decide_eq_true h2
    go_enter Try.func71, Try.ntmps71
    go_wp2
    go_ret
    rw [e1.out]
    exact ⟨rfl, rfl⟩
  have t2 : decide (a < 0) = false := decide_eq_false h2
  by_cases h3 : (l.length : Int) ≤ a
  · have e1 : Hid (allB l a n f = false) := Lib.hid (by unfold allB; rw [decide_eq_false (by omega)]; rfl)
    have t3 : decide ((l.length : Int) ≤ a) = true := decide_eq_true h3
    go_enter Try.func71, Try.ntmps71
    go_wp2_with fail
    refine hs.out.mono ?_
    rintro e w1 ⟨rfl, rfl⟩
    go_wp2
    go_ret
    rw [e1.out]
    exact ⟨rfl, rfl⟩
  have t3 : decide ((l.length : Int) ≤ a) = false := decide_eq_false h3
  have t4 : IntKind.i64.wrap ((l.length : Int) - a) = (l.length : Int) - a := wrapI _ (by omega) (by omega)
  by_cases h4 : (l.length : Int) - a < n
  · have e1 : Hid (allB l a n f = false) := Lib.hid (by unfold allB; rw [decide_eq_false (by omega)]; rfl)
    have t5 : decide ((l.length : Int) - a < n) = true := decide_eq_true h4
    go_enter Try.func71, Try.ntmps71
    go_wp2_with fail
    refine hs.out.mono ?_
    rintro e w1 ⟨rfl, rfl⟩
    go_wp2_with fail
    refine hs.out.mono ?_
    rintro e w1 ⟨rfl, rfl⟩
    go_wp2
    go_ret
    rw [e1.out]
    exact ⟨rfl, rfl⟩
  have t5 : decide ((l.length : Int) - a < n) = false := decide_eq_false h4
  obtain ⟨lo, rfl⟩ : ∃ lo : Nat, a = lo := ⟨a.toNat, by omega⟩
  obtain ⟨m, rfl⟩ : ∃ m : Nat, n = m := ⟨n.toNat, by omega⟩
  have t6 : IntKind.i64.wrap ((lo : Int) + (m : Int)) = ((lo + m : Nat) : Int) := by rw [wrapI _ (by omega) (by omega)]; omega
  rcases h with ⟨rfl, rfl⟩ | ⟨b, A, c, rfl, hbx, hr⟩
  · simp at h3
  · obtain ⟨ad, rfl, _⟩ := kl_at (rk_C hr) lo (by omega)
    have hcap := rk_cap hr
    have hcut := cutM_l ad l.length c lo m (by omega) hcap (by omega)
    have hm := Lib.hid (rl_mid hr lo m (by omega) (by omega))
    have c0 := hbx.one
    have e1 : Hid (allB l lo m f = !decide ((!f) ∈ (l.drop lo).take m)) := Lib.hid (by unfold allB; rw [decide_eq_true (by omega), Bool.true_and, Int.toNat_natCast, Int.toNat_natCast])
    generalize (l.drop lo).take m = seg at *
    clear hr
    go_enter Try.func71, Try.ntmps71
    go_wp2_with fail
    refine hs.out.mono ?_
    rintro e w1 ⟨rfl, rfl⟩
    go_wp2_with fail
    refine hs.out.mono ?_
    rintro e w1 ⟨rfl, rfl⟩
    go_wp2_with fail
    refine (lContains_c _ seg (!f) w hm.out).mono ?_
    rintro e w1 ⟨rfl, rfl⟩
    generalize decide ((!f) ∈ seg) = q at *
    go_wp2
    go_ret
    rw [e1.out]
    exact ⟨rfl, rfl⟩
/-- A space: the box of a row of bools, of one's own. -/
structure Sp (w0 w : World) (b g c : Nat) (l : List Bool) : Prop where
  base : w0.heap.size ≤ b
  box : Blk w b #[.slice (some ⟨g, 0, none⟩) l.length c] 82
  own : Ol w0 w (.slice (some ⟨g, 0, none⟩) l.length c) l
theorem Sp.rs {w0 w : World} {b g c : Nat} {l : List Bool} (h : Sp w0 w b g c l) : Rs w (.pointer (some ⟨b, 0, none⟩)) l := .inr ⟨b, _, c, rfl, h.box, h.own.rk⟩
theorem Sp.below {w0 w w' : World} {b g c : Nat} {l : List Bool} (h : Sp w0 w b g c l) (hb : Below w.heap.size w w') : Sp w0 w' b g c l := ⟨h.base, h.box.below hb, Own.below h.own hb⟩
theorem Sp.ne {w0 w : World} {b g c : Nat} {l : List Bool} (h : Sp w0 w b g c l) : b ≠ g := fun e => by
  have := own_ne (ol_own h.own) h.box (by decide)
  exact this (by rw [e]; rfl)
theorem Sp.gbase {w0 w : World} {b g c : Nat} {l : List Bool} (h : Sp w0 w b g c l) : w0.heap.size ≤ g := own_base (ol_own h.own) g rfl
theorem Sp.glt {w0 w : World} {b g c : Nat} {l : List Bool} (h : Sp w0 w b g c l) : g < w.heap.size := by
  obtain ⟨cells, hc⟩ := own_typed (ol_own h.own) g rfl
  exact blk_lt hc
theorem Sp.blt {w0 w : World} {b g c : Nat} {l : List Bool} (h : Sp w0 w b g c l) : b < w.heap.size := blk_lt h.box
/-- Another space is kept where one is changed. -/
theorem Sp.other {w0 w w' : World} {b g c g' : Nat} {l : List Bool} (h : Sp w0 w b g c l) (hg : w.grownBy w' (some g')) (h1 : b ≠ g') (h2 : g ≠ g') : Sp w0 w' b g c l := by
  refine ⟨h.base, ?_, ?_⟩
  · exact blk_grown h.box hg (by simpa using h1)
  · exact own_ol (own_other (ol_own h.own) hg (.inr (by simpa [Value.ownBlock] using h2)))
def fillS (l : List Bool) (a : Nat) (f : Bool) : Nat → List Bool
  | 0 => l
  | k + 1 => (fillS l a f k).set (a + k) f
theorem fillS_len (l : List Bool) (a : Nat) (f : Bool) : ∀ k, (fillS l a f k).length = l.length
  | 0 => rfl
  | k + 1 => by rw [fillS, List.length_set, fillS_len l a f k]
def setL (l : List Bool) (a n : Int) (f : Bool) : List Bool := if allB l a n (!f) then fillS l a.toNat f n.toNat else l
theorem setL_len (l : List Bool) (a n : Int) (f : Bool) : (setL l a n f).length = l.length := by
  unfold setL
  split
  · exact fillS_len _ _ _ _
  · rfl
theorem allB_in {l : List Bool} {a n : Int} {f : Bool} (h : allB l a n f = true) : 1 ≤ n ∧ 0 ≤ a ∧ a < l.length ∧ n ≤ l.length - a := by
  unfold allB at h
  rw [Bool.and_eq_true] at h
  exact of_decide_eq_true h.1
set_option maxRecDepth 100000 in
set_option maxHeartbeats 1600000 in
theorem set_no (p : Value) (l : List Bool) (a n : Int) (f : Bool) (w : World) (h : Rs w p l) (hn : allB l a n (!f) = false) :
   Calls Try.prog 69 #[p, .int .i64 a, .int .i64 n, .bool f] w fun e w' => e = .returned (.bool false) ∧ w = w' := by
  have hs := all_c p l a n (!f) w h
  rw [hn] at hs
  go_enter Try.func69, Try.ntmps69
  go_wp2_with fail
  refine hs.mono ?_
  rintro e w1 ⟨rfl, rfl⟩
  go_wp2
  go_ret
  exact ⟨rfl, rfl⟩
set_option maxRecDepth 100000 in
set_option maxHeartbeats 1600000 in
theorem set_yes (b g c : Nat) (l : List Bool) (a n : Int) (f : Bool) (w0 w : World) (h : Sp w0 w b g c l) (hB : Below w0.heap.size w0 w) (hn : allB l a n (!f) = true) :
   Calls Try.prog 69 #[.pointer (some ⟨b, 0, none⟩), .int .i64 a, .int .i64 n, .bool f] w fun e w' => e = .returned (.bool true) ∧ Sp w0 w' b g c (fillS l a.toNat f n.toNat) ∧ Below w0.heap.size w0 w' ∧ w.grownBy w' (some g) := by
  have hs := all_c _ l a n (!f) w h.rs
  have hlm := h.rs.len
  rw [hn] at hs
  obtain ⟨q1, q2, q3, q4⟩ := allB_in hn
  obtain ⟨lo, rfl⟩ : ∃ lo : Nat, a = lo := ⟨a.toNat, by omega⟩
  obtain ⟨m, rfl⟩ : ∃ m : Nat, n = m := ⟨n.toNat, by omega⟩
  rw [Int.toNat_natCast, Int.toNat_natCast]
  clear hn
  go_enter Try.func69, Try.ntmps69
  go_wp2_with fail
  refine hs.mono ?_
  rintro e w1 ⟨rfl, rfl⟩
  clear hs
  go_wp2_with fail
  go_loopw [18] (fun s wr => ∃ k : Nat, k ≤ m ∧ s = .int .i64 k ∧ Sp w0 wr b g c (fillS l lo f k) ∧ Below w0.heap.size w0 wr ∧ w.grownBy wr (some g)) (fun s _ => m - (intOf s).toNat)
  case atStart => exact ⟨0, by omega, rfl, h, hB, World.grownBy.refl w _⟩
  case round =>
    have hgb := h.gbase
    clear h hB
    obtain ⟨k, hk, rfl, hS, hB, hG⟩ := hrel
    by_cases hlt : k < m
    · have t1 : IntKind.i64.wrap ((lo : Int) + (k : Int)) = ((lo + k : Nat) : Int) := by rw [wrapI _ (by omega) (by omega)]; omega
      have c0 := hS.box.one
      obtain ⟨d0, d1⟩ := Ol.at hS.own (lo + k) (by rw [fillS_len]; omega)
      have hl := fillS_len l lo f k
      rw [hl] at c0
      have hlk : lo + k < l.length := by omega
      have hst := Ol.set hS.own (lo + k) f
      have hS2 : Sp w0 (wr.setCell ⟨g, lo + k, none⟩ (.bool f)) b g c (fillS l lo f (k + 1)) := by
        refine ⟨hS.base, ?_, ?_⟩
        · rw [fillS_len, ← fillS_len l lo f k]
          exact hS.box.far hS.ne _ _
        · have := hst.1
          rw [fillS_len] at this
          rw [fillS_len]
          exact this
      have hB2 := below_set hB hgb (j := lo + k) (v := .bool f)
      have hG2 := World.grownBy.trans hG hst.2
      clear hst hS hB hG
      go_wp2
      exact ⟨⟨k + 1, by omega, by go_num, hS2, hB2, hG2⟩, by simp [intOf]; omega⟩
    · obtain rfl : k = m := by omega
      go_wp2
      go_ret
      exact ⟨rfl, hS, hB, hG⟩
theorem set_c (b g c : Nat) (l : List Bool) (a n : Int) (f : Bool) (w0 w : World) (h : Sp w0 w b g c l) (hB : Below w0.heap.size w0 w) :
   Calls Try.prog 69 #[.pointer (some ⟨b, 0, none⟩), .int .i64 a, .int .i64 n, .bool f] w fun e w' => e = .returned (.bool (allB l a n (!f))) ∧ Sp w0 w' b g c (setL l a n f) ∧ Below w0.heap.size w0 w' ∧ w.grownBy w' (some g) := by
  unfold setL
  cases hn : allB l a n (!f) with
  | true => exact set_yes b g c l a n f w0 w h hB hn
  | false => exact (set_no _ l a n f w h.rs hn).mono fun e w' ⟨h1, h2⟩ => by subst h2; exact ⟨h1, h, hB, World.grownBy.refl w _⟩
set_option maxHeartbeats 800000 in
theorem use_c (b g c : Nat) (l : List Bool) (a n : Int) (w0 w : World) (h : Sp w0 w b g c l) (hB : Below w0.heap.size w0 w) :
   Calls Try.prog 31 #[.pointer (some ⟨b, 0, none⟩), .int .i64 a, .int .i64 n] w fun e w' => e = .returned (.bool (allB l a n (!false))) ∧ Sp w0 w' b g c (setL l a n false) ∧ Below w0.heap.size w0 w' ∧ w.grownBy w' (some g) := by
  have hs := Lib.hid (set_c b g c l a n false w0 w h hB)
  go_enter Try.func31, Try.ntmps31
  go_wp2_with fail
  refine hs.out.mono ?_
  rintro e w1 ⟨rfl, h1⟩
  go_wp2
  go_ret
  exact ⟨rfl, h1⟩
set_option maxHeartbeats 800000 in
theorem use_no (p : Value) (l : List Bool) (a n : Int) (w : World) (h : Rs w p l) (hn : allB l a n (!false) = false) :
   Calls Try.prog 31 #[p, .int .i64 a, .int .i64 n] w fun e w' => e = .returned (.bool false) ∧ w = w' := by
  have hs := Lib.hid (set_no p l a n false w h hn)
  go_enter Try.func31, Try.ntmps31
  go_wp2_with fail
  refine hs.out.mono ?_
  rintro e w1 ⟨rfl, h1⟩
  go_wp2
  go_ret
  exact ⟨rfl, h1⟩
set_option maxHeartbeats 800000 in
theorem give_c (b g c : Nat) (l : List Bool) (a n : Int) (w0 w : World) (h : Sp w0 w b g c l) (hB : Below w0.heap.size w0 w) :
   Calls Try.prog 33 #[.pointer (some ⟨b, 0, none⟩), .int .i64 a, .int .i64 n] w fun e w' => e = .returned (.bool (allB l a n (!true))) ∧ Sp w0 w' b g c (setL l a n true) ∧ Below w0.heap.size w0 w' ∧ w.grownBy w' (some g) := by
  have hs := Lib.hid (set_c b g c l a n true w0 w h hB)
  go_enter Try.func33, Try.ntmps33
  go_wp2_with fail
  refine hs.out.mono ?_
  rintro e w1 ⟨rfl, h1⟩
  go_wp2
  go_ret
  exact ⟨rfl, h1⟩
set_option maxHeartbeats 800000 in
theorem give_no (p : Value) (l : List Bool) (a n : Int) (w : World) (h : Rs w p l) (hn : allB l a n (!true) = false) :
   Calls Try.prog 33 #[p, .int .i64 a, .int .i64 n] w fun e w' => e = .returned (.bool false) ∧ w = w' := by
  have hs := Lib.hid (set_no p l a n true w h hn)
  go_enter Try.func33, Try.ntmps33
  go_wp2_with fail
  refine hs.out.mono ?_
  rintro e w1 ⟨rfl, h1⟩
  go_wp2
  go_ret
  exact ⟨rfl, h1⟩
set_option maxHeartbeats 800000 in
theorem is_c (p : Value) (l : List Bool) (a : Int) (w : World) (h : Rs w p l) :
   Calls Try.prog 38 #[p, .int .i64 a] w fun e w' => e = .returned (.bool (allB l a 1 true)) ∧ w = w' := by
  have hs := Lib.hid (all_c p l a 1 true w h)
  go_enter Try.func38, Try.ntmps38
  go_wp2_with fail
  refine hs.out.mono ?_
  rintro e w1 ⟨rfl, h1⟩
  go_wp2
  go_ret
  exact ⟨rfl, h1⟩
end Go.Proofs.Ytacbenjfiabegaa
