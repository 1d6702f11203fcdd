/- The walks of the reference's space. -/
import Derived.Test.YtacbenjfiabegaaTe
import Derived.Test.YtacbenjfiabegaaTd
namespace Go.Proofs.Ytacbenjfiabegaa
set_option linter.unusedVariables false
set_option linter.unusedSimpArgs false
open Go.RowKit Go.Proofs.YtacbenjfiabegaaW.PrintWords Go.Proofs.Sh

/-- The reference's space, read. -/
def Rm (w : World) (b : Nat) (l : List Bool) : Prop := ∃ (A : Option Addr) (c : Nat), Blk w b #[.slice A l.length c] 75 ∧ Rl w (.slice A l.length c) l
theorem Rm.len {w : World} {b : Nat} {l : List Bool} (h : Rm w b l) : l.length ≤ 9223372036854775807 := by
  obtain ⟨A, c, _, h3⟩ := h
  exact (rk_C h3).2.1
/-- The reference's space: the box of a row of bools, of one's own. -/
structure Sm (w0 w : World) (b g c : Nat) (l : List Bool) : Prop where
  base : w0.heap.size ≤ b
  box : Blk w b #[.slice (some ⟨g, 0, none⟩) l.length c] 75
  own : Ol w0 w (.slice (some ⟨g, 0, none⟩) l.length c) l
theorem Sm.below {w0 w w' : World} {b g c : Nat} {l : List Bool} (h : Sm w0 w b g c l) (hb : Below w.heap.size w w') : Sm w0 w' b g c l := ⟨h.base, h.box.below hb, Own.below h.own hb⟩
theorem Sm.ne {w0 w : World} {b g c : Nat} {l : List Bool} (h : Sm w0 w b g c l) : b ≠ g := fun e => by
  have := own_ne (ol_own h.own) h.box (by decide)
  exact this (by rw [e]; rfl)
theorem Sm.gbase {w0 w : World} {b g c : Nat} {l : List Bool} (h : Sm w0 w b g c l) : w0.heap.size ≤ g := own_base (ol_own h.own) g rfl
theorem Sm.glt {w0 w : World} {b g c : Nat} {l : List Bool} (h : Sm w0 w b g c l) : g < w.heap.size := by
  obtain ⟨cells, hc⟩ := own_typed (ol_own h.own) g rfl
  exact blk_lt hc
theorem Sm.blt {w0 w : World} {b g c : Nat} {l : List Bool} (h : Sm w0 w b g c l) : b < w.heap.size := blk_lt h.box
/-- Another space is kept where one is changed. -/
theorem Sm.other {w0 w w' : World} {b g c g' : Nat} {l : List Bool} (h : Sm w0 w b g c l) (hg : w.grownBy w' (some g')) (h1 : b ≠ g') (h2 : g ≠ g') : Sm w0 w' b g c l := by
  refine ⟨h.base, ?_, ?_⟩
  · exact blk_grown h.box hg (by simpa using h1)
  · exact own_ol (own_other (ol_own h.own) hg (.inr (by simpa [Value.ownBlock] using h2)))
theorem Sm.rm {w0 w : World} {b g c : Nat} {l : List Bool} (h : Sm w0 w b g c l) : Rm w b l := ⟨_, c, h.box, h.own.rk⟩
set_option maxRecDepth 100000 in
set_option maxHeartbeats 1600000 in
theorem rLong_c (b : Nat) (l : List Bool) (a : Nat) (w : World) (h : Rm w b l) (ha : a ≤ l.length) :
   Calls Try.prog 70 #[.pointer (some ⟨b, 0, none⟩), .int .i64 (a : Int)] w fun e w' => e = .returned (.int .i64 (longN l a : Int)) ∧ w = w' := by
  have hlm := h.len
  obtain ⟨A, c, hbx, hr⟩ := h
  have c0 := hbx.one
  go_enter Try.func70, Try.ntmps70
  go_wp2
  go_loopw [5] (fun s wr => ∃ n : Nat, a + n ≤ l.length ∧ s = .int .i64 n ∧ Hid (∀ j, j < n → l.getD (a + j) false = true) ∧ w = wr) (fun s _ => l.length - a - (intOf s).toNat)
  case atStart => exact ⟨0, by omega, rfl, Lib.hid (fun j hj => absurd hj (Nat.not_lt_zero _)), rfl⟩
  case round =>
    obtain ⟨n, hn, rfl, hI, rfl⟩ := hrel
    have t1 : IntKind.i64.wrap ((a : Int) + (n : Int)) = ((a + n : Nat) : Int) := by rw [wrapI _ (by omega) (by omega)]; omega
    by_cases hlt : a + n < l.length
    · have t2 : decide (((a + n : Nat) : Int) < (l.length : Int)) = true := decide_eq_true (by omega)
      obtain ⟨ad, rfl, d0⟩ := kl_at (rk_C hr) (a + n) hlt
      have hst := Lib.hid (fun h => longN_stop (l := l) (a := a) (n := n) hI.out hn (.inr h))
      have hnx : Hid (l.getD (a + n) false = true → ∀ j, j < n + 1 → l.getD (a + j) false = true) := Lib.hid (fun h j hj => by
        by_cases e : j = n
        · subst e; exact h
        · exact hI.out j (by omega))
      generalize hk : a + n = k at *
      cases hq : l.getD k false with
      | true =>
        have h1 := Lib.hid (hnx.out hq)
        rw [hq] at d0
        clear hq hst hnx
        go_wp2
        exact ⟨⟨n + 1, by omega, by go_num, h1, trivial⟩, by simp [intOf]; omega⟩
      | false =>
        have h1 := Lib.hid (hst.out hq)
        rw [hq] at d0
        clear hq hst hnx
        go_wp2
        go_ret
        rw [h1.out]
        exact ⟨rfl, rfl⟩
    · have t2 : decide (((a + n : Nat) : Int) < (l.length : Int)) = false := decide_eq_false (by omega)
      have h1 := Lib.hid (longN_stop (l := l) (a := a) (n := n) hI.out hn (.inl (by omega)))
      generalize hk : a + n = k at *
      go_wp2
      go_ret
      rw [h1.out]
      exact ⟨rfl, rfl⟩
set_option maxRecDepth 100000 in
set_option maxHeartbeats 1600000 in
theorem rCount_c (b : Nat) (l : List Bool) (w : World) (h : Rm w b l) (hl : l.length ≤ 1000) :
   Calls Try.prog 35 #[.pointer (some ⟨b, 0, none⟩)] w fun e w' => e = .returned (.int .i64 (cntT l)) ∧ w = w' := by
  obtain ⟨A, c, hbx, hr⟩ := h
  have c0 := hbx.one
  go_enter Try.func35, Try.ntmps35
  go_wp2
  go_loopw [3, 4] (fun n i wr => ∃ k : Nat, k ≤ l.length ∧ i = .int .i64 k ∧ n = .int .i64 (cntT (l.take k)) ∧ 0 ≤ cntT (l.take k) ∧ cntT (l.take k) ≤ k ∧ w = wr) (fun _ i _ => l.length - (intOf i).toNat)
  case atStart => exact ⟨0, by omega, rfl, rfl, by simp [cntT], by simp [cntT], rfl⟩
  case round =>
    obtain ⟨k, hk, rfl, rfl, b1, b2, rfl⟩ := hrel
    by_cases hlt : k < l.length
    · obtain ⟨ad, rfl, d0⟩ := kl_at (rk_C hr) k hlt
      have hsn := cntT_snoc l k hlt
      cases hq : l.getD k false with
      | true =>
        rw [hq, if_pos rfl] at hsn
        rw [hq] at d0
        have t1 : IntKind.i64.wrap (cntT (l.take k) + 1) = cntT (l.take k) + 1 := wrapI _ (by omega) (by omega)
        generalize cntT (l.take k) = S at *
        replace hsn := Lib.hid hsn
        clear hq
        go_wp2
        exact ⟨⟨k + 1, by omega, by go_num, by rw [hsn.out], by rw [hsn.out]; omega, by rw [hsn.out]; omega, trivial⟩, by simp [intOf]; omega⟩
      | false =>
        rw [hq, if_neg (by decide), Int.add_zero] at hsn
        rw [hq] at d0
        generalize cntT (l.take k) = S at *
        replace hsn := Lib.hid hsn
        clear hq
        go_wp2
        exact ⟨⟨k + 1, by omega, by go_num, by rw [hsn.out], by rw [hsn.out]; omega, by rw [hsn.out]; omega, trivial⟩, by simp [intOf]; omega⟩
    · obtain rfl : k = l.length := by omega
      rw [List.take_length] at *
      go_wp2
      go_ret
      exact ⟨rfl, rfl⟩
set_option maxRecDepth 100000 in
set_option maxHeartbeats 1600000 in
theorem rLongest_c (b : Nat) (l : List Bool) (w : World) (h : Rm w b l) :
   Calls Try.prog 37 #[.pointer (some ⟨b, 0, none⟩)] w fun e w' => e = .returned (.int .i64 (maxR (runsL l))) ∧ w = w' := by
  have hlg := fun a ha => Lib.hid (rLong_c b l a w h ha)
  rw [← mlong_eq l]
  have hlm := h.len
  obtain ⟨A, c, hbx, hr⟩ := h
  have c0 := hbx.one
  go_enter Try.func37, Try.ntmps37
  go_wp2_with fail
  go_loopw [3, 4] (fun n i wr => ∃ k : Nat, k ≤ l.length ∧ i = .int .i64 k ∧ n = .int .i64 (mlong l k) ∧ w = wr) (fun _ i _ => l.length - (intOf i).toNat)
  case atStart => exact ⟨0, by omega, rfl, rfl, rfl⟩
  case round =>
    obtain ⟨k, hk, rfl, rfl, rfl⟩ := hrel
    by_cases hlt : k < l.length
    · have hlk := hlg k (by omega)
      have hstep : Hid (mlong l (k + 1) = if mlong l k < longN l k then (longN l k : Int) else mlong l k) := Lib.hid rfl
      generalize mlong l k = S at *
      generalize longN l k = L at *
      clear hlg
      go_wp2_with fail
      refine hlk.out.mono ?_
      rintro e w2 ⟨rfl, rfl⟩
      by_cases hc : S < (L : Int)
      · have t1 : decide (S < (L : Int)) = true := decide_eq_true hc
        have hs := Lib.hid (hstep.out.trans (if_pos hc))
        clear hc hstep
        go_wp2_with fail
        refine hlk.out.mono ?_
        rintro e w2 ⟨rfl, rfl⟩
        go_wp2
        exact ⟨⟨k + 1, by omega, by go_num, by rw [hs.out], trivial⟩, by simp [intOf]; omega⟩
      · have t1 : decide (S < (L : Int)) = false := decide_eq_false hc
        have hs := Lib.hid (hstep.out.trans (if_neg hc))
        clear hc hstep
        go_wp2
        exact ⟨⟨k + 1, by omega, by go_num, by rw [hs.out], trivial⟩, by simp [intOf]; omega⟩
    · obtain rfl : k = l.length := by omega
      clear hlg
      go_wp2
      go_ret
      exact ⟨rfl, rfl⟩
theorem allB_yes {l : List Bool} {lo m : Nat} {f : Bool} (h1 : 1 ≤ m) (h2 : lo + m ≤ l.length) (h : ∀ j, j < m → l.getD (lo + j) false = !f) : allB l lo m (!f) = true := by
  unfold allB
  rw [Bool.and_eq_true]
  refine ⟨decide_eq_true (by omega), ?_⟩
  rw [Bool.not_eq_true', decide_eq_false_iff_not, Int.toNat_natCast, Int.toNat_natCast]
  intro hm
  rw [List.mem_take_iff_getElem] at hm
  obtain ⟨i, hi, he⟩ := hm
  rw [List.length_drop] at hi
  rw [List.getElem_drop] at he
  have := h i (by omega)
  rw [List.getD_eq_getElem?_getD, List.getElem?_eq_getElem (by omega)] at this
  simp only [Option.getD_some] at this
  rw [this] at he
  cases f <;> cases he
theorem allB_not {l : List Bool} {lo m j : Nat} {f : Bool} (h2 : lo + m ≤ l.length) (hj : j < m) (h : l.getD (lo + j) false = f) : allB l lo m (!f) = false := by
  unfold allB
  rw [Bool.and_eq_false_iff]
  refine .inr ?_
  rw [Bool.not_eq_false', decide_eq_true_iff, Int.toNat_natCast, Int.toNat_natCast, List.mem_take_iff_getElem]
  refine ⟨j, by rw [List.length_drop]; omega, ?_⟩
  rw [List.getElem_drop]
  rw [List.getD_eq_getElem?_getD, List.getElem?_eq_getElem (by omega)] at h
  simp only [Option.getD_some] at h
  rw [h, Bool.not_not]
set_option maxRecDepth 100000 in
set_option maxHeartbeats 3200000 in
theorem rSet_c (b g c : Nat) (l : List Bool) (a n : Int) (f : Bool) (w0 w : World) (h : Sm w0 w b g c l) (hB : Below w0.heap.size w0 w) :
   Calls Try.prog 32 #[.pointer (some ⟨b, 0, none⟩), .int .i64 a, .int .i64 n, .bool f] w fun e w' => e = .returned (.bool (allB l a n (!f))) ∧ Sm w0 w' b g c (setL l a n f) ∧ Below w0.heap.size w0 w' ∧ w.grownBy w' (some g) := by
  have hlm := h.rm.len
  have c0 := h.box.one
  by_cases h1 : n < 1
  · have e1 : Hid (allB l a n (!f) = false) := Lib.hid (by unfold allB; rw [decide_eq_false (by omega)]; rfl)
    have t1 : decide (n < 1) = true := decide_eq_true h1
    go_enter Try.func32, Try.ntmps32
    go_wp2
    go_ret
    unfold setL
    rw [e1.out]
    exact ⟨rfl, h, hB, World.grownBy.refl w _⟩
  have t1 : decide (n < 1) = false := decide_eq_false h1
  by_cases h2 : a < 0
  · have e1 : Hid (allB l a n (!f) = false) := Lib.hid (by unfold allB; rw [decide_eq_false (by omega)]; rfl)
    have t2 : decide (a < 0) = true := decide_eq_true h2
    go_enter Try.func32, Try.ntmps32
    go_wp2
    go_ret
    unfold setL
    rw [e1.out]
    exact ⟨rfl, h, hB, World.grownBy.refl w _⟩
  have t2 : decide (a < 0) = false := decide_eq_false h2
  by_cases h3 : (l.length : Int) ≤ a
  · have e1 : Hid (allB l a n (!f) = false) := Lib.hid (by unfold allB; rw [decide_eq_false (by omega)]; rfl)
    have t3 : decide ((l.length : Int) ≤ a) = true := decide_eq_true h3
    go_enter Try.func32, Try.ntmps32
    go_wp2
    go_ret
    unfold setL
    rw [e1.out]
    exact ⟨rfl, h, hB, World.grownBy.refl w _⟩
  have t3 : decide ((l.length : Int) ≤ a) = false := decide_eq_false h3
  have t4 : IntKind.i64.wrap ((l.length : Int) - a) = (l.length : Int) - a := wrapI _ (by omega) (by omega)
  by_cases h4 : (l.length : Int) - a < n
  · have e1 : Hid (allB l a n (!f) = false) := Lib.hid (by unfold allB; rw [decide_eq_false (by omega)]; rfl)
    have t5 : decide ((l.length : Int) - a < n) = true := decide_eq_true h4
    go_enter Try.func32, Try.ntmps32
    go_wp2
    go_ret
    unfold setL
    rw [e1.out]
    exact ⟨rfl, h, hB, World.grownBy.refl w _⟩
  have t5 : decide ((l.length : Int) - a < n) = false := decide_eq_false h4
  obtain ⟨lo, rfl⟩ : ∃ lo : Nat, a = lo := ⟨a.toNat, by omega⟩
  obtain ⟨m, rfl⟩ : ∃ m : Nat, n = m := ⟨n.toNat, by omega⟩
  have t6 : IntKind.i64.wrap ((lo : Int) + (m : Int)) = ((lo + m : Nat) : Int) := by rw [wrapI _ (by omega) (by omega)]; omega
  have t3' : decide (l.length ≤ lo) = false := decide_eq_false (by omega)
  have hle : lo + m ≤ l.length := by omega
  have hm1 : 1 ≤ m := by omega
  obtain ⟨E, hE⟩ : ∃ E, E = lo + m := ⟨_, rfl⟩
  rw [← hE] at t6
  have hgb := h.gbase
  clear h1 h2 h3 h4
  go_enter Try.func32, Try.ntmps32
  go_wp2_with fail
  go_loopw [9] (fun s wr => ∃ k q : Nat, k ≤ m ∧ Hid (q = lo + k) ∧ s = .int .i64 (q : Int) ∧ Hid (∀ j, j < k → l.getD (lo + j) false = !f) ∧ w = wr) (fun s _ => E - (intOf s).toNat)
  case atStart => exact ⟨0, lo, by omega, Lib.hid rfl, rfl, Lib.hid (fun j hj => absurd hj (Nat.not_lt_zero _)), rfl⟩
  case round =>
    obtain ⟨k, q, hk, hq, rfl, hI, rfl⟩ := hrel
    have hqo : q = lo + k := hq.out
    by_cases hlt : k < m
    · have t7 : decide ((q : Int) < (E : Int)) = true := decide_eq_true (by omega)
      have t7' : decide ((q : Int) < (lo : Int) + (m : Int)) = true := decide_eq_true (by omega)
      obtain ⟨d0, _⟩ := Ol.at h.own q (by omega)
      have hql : q < l.length := by omega
      have hno := fun hx => allB_not (f := f) hle hlt hx
      rw [← hqo] at hno
      replace hno := Lib.hid hno
      generalize hx : l.getD q false = x at *
      by_cases hf : x = f
      · have h9 := Lib.hid (hno.out hf)
        subst hf
        clear hno hx hqo
        go_wp2
        go_ret
        unfold setL
        rw [h9.out]
        exact ⟨rfl, h, hB, World.grownBy.refl _ _⟩
      · have t8 : (x == f) = false := beq_eq_false_iff_ne.2 hf
        have h9 : Hid (∀ j, j < k + 1 → l.getD (lo + j) false = !f) := Lib.hid (fun j hj => by
          by_cases e : j = k
          · subst e
            rw [← hqo, hx]
            cases x <;> cases f <;> first | rfl | exact absurd rfl hf
          · exact hI.out j (by omega))
        have hq2 := Lib.hid (show q + 1 = lo + (k + 1) by omega)
        have hqE : q < E := by omega
        clear hno hx hf hqo
        go_wp2
        exact ⟨⟨k + 1, q + 1, by omega, hq2, by go_num, h9, trivial⟩, by simp [intOf]; omega⟩
    · obtain rfl : k = m := by omega
      have t7 : decide ((q : Int) < (E : Int)) = false := decide_eq_false (by omega)
      have t7' : decide ((q : Int) < (lo : Int) + (k : Int)) = false := decide_eq_false (by omega)
      have hyes := Lib.hid (allB_yes hm1 hle hI.out)
      clear hI hlt hqo hq
      go_wp2_with fail
      go_loopw [10] (fun s wr => ∃ i q : Nat, i ≤ k ∧ Hid (q = lo + i) ∧ s = .int .i64 (q : Int) ∧ Sm w0 wr b g c (fillS l lo f i) ∧ Below w0.heap.size w0 wr ∧ w.grownBy wr (some g)) (fun s _ => E - (intOf s).toNat)
      case atStart => exact ⟨0, lo, by omega, Lib.hid rfl, rfl, h, hB, World.grownBy.refl _ _⟩
      case round =>
        clear h hB c0
        obtain ⟨i, q, hi, hq, rfl, hS, hB, hG⟩ := hrel
        have hqo : q = lo + i := hq.out
        by_cases hlt : i < k
        · have t7 : decide ((q : Int) < (E : Int)) = true := decide_eq_true (by omega)
          have t7' : decide ((q : Int) < (lo : Int) + (k : Int)) = true := decide_eq_true (by omega)
          have c0 := hS.box.one
          obtain ⟨d0, d1⟩ := Ol.at hS.own q (by rw [fillS_len]; omega)
          have hl := fillS_len l lo f i
          rw [hl] at c0
          have hlk : q < l.length := by omega
          have hst := Ol.set hS.own q f
          have hS2 : Sm w0 (wr.setCell ⟨g, q, none⟩ (.bool f)) b g c (fillS l lo f (i + 1)) := by
            refine ⟨hS.base, ?_, ?_⟩
            · rw [fillS_len, ← fillS_len l lo f i]
              exact hS.box.far hS.ne _ _
            · have := hst.1
              rw [fillS_len] at this
              rw [fillS_len, fillS, ← hqo]
              exact this
          have hB2 := below_set hB hgb (j := q) (v := .bool f)
          have hG2 := World.grownBy.trans hG hst.2
          have hq2 := Lib.hid (show q + 1 = lo + (i + 1) by omega)
          have hqE : q < E := by omega
          clear hst hS hB hG hqo
          go_wp2
          exact ⟨⟨i + 1, q + 1, by omega, hq2, by go_num, hS2, hB2, hG2⟩, by simp [intOf]; omega⟩
        · obtain rfl : i = k := by omega
          have t7 : decide ((q : Int) < (E : Int)) = false := decide_eq_false (by omega)
          have t7' : decide ((q : Int) < (lo : Int) + (i : Int)) = false := decide_eq_false (by omega)
          clear hqo hlt
          go_wp2
          go_ret
          unfold setL
          rw [hyes.out, if_pos rfl, Int.toNat_natCast, Int.toNat_natCast]
          exact ⟨rfl, hS, hB, hG⟩
theorem Sm.lower {w0 w1 w : World} {b g c : Nat} {l : List Bool} (h : Sm w1 w b g c l) (hb : Below w0.heap.size w0 w1) : Sm w0 w b g c l := ⟨Nat.le_trans hb.size h.base, h.box, h.own.lower hb⟩
set_option maxRecDepth 100000 in
set_option maxHeartbeats 3200000 in
theorem rTake_c (b g c : Nat) (l : List Bool) (n : Int) (w0 w : World) (hS : Sm w0 w b g c l) (hB : Below w0.heap.size w0 w) :
   Calls Try.prog 30 #[.pointer (some ⟨b, 0, none⟩), .int .i64 n] w fun e w' => e = .returned (.tuple #[.int .i64 (takeL l n).1, .bool (takeL l n).2.1]) ∧ Sm w0 w' b g c (takeL l n).2.2 ∧ Below w0.heap.size w0 w' ∧ w.grownBy w' (some g) := by
  have hlm := hS.rm.len
  have c0 := hS.box.one
  by_cases hn : n < 1
  · have t1 : decide (0 < n) = false := decide_eq_false (by omega)
    have hres := Lib.hid (takeL_no (l := l) (n := n) (.inl hn))
    by_cases h0 : 0 < l.length
    · have t2 : decide ((0 : Int) < (l.length : Int)) = true := decide_eq_true (by omega)
      clear hn
      go_enter Try.func30, Try.ntmps30
      go_wp2_with fail
      go_loopw [6] (fun i wr => i = .int .i64 0 ∧ w = wr) (fun _ _ => 0)
      case atStart => exact ⟨rfl, rfl⟩
      case round =>
        obtain ⟨rfl, rfl⟩ := hrel
        go_wp2
        go_ret2
        rw [hres.out]
        exact ⟨rfl, hS, hB, World.grownBy.refl w _⟩
    · have t2 : decide ((0 : Int) < (l.length : Int)) = false := decide_eq_false (by omega)
      clear hn
      go_enter Try.func30, Try.ntmps30
      go_wp2_with fail
      go_loopw [6] (fun i wr => i = .int .i64 0 ∧ w = wr) (fun _ _ => 0)
      case atStart => exact ⟨rfl, rfl⟩
      case round =>
        obtain ⟨rfl, rfl⟩ := hrel
        go_wp2
        go_ret2
        rw [hres.out]
        exact ⟨rfl, hS, hB, World.grownBy.refl w _⟩
  · have t1 : decide (0 < n) = true := decide_eq_true (by omega)
    obtain ⟨m, rfl⟩ : ∃ m : Nat, n = m := ⟨n.toNat, by omega⟩
    have hm1 : 1 ≤ m := by omega
    have hlg := fun a ha => Lib.hid (rLong_c b l a w hS.rm ha)
    have hset := fun a => Lib.hid (rSet_c b g c l a m false w0 w hS hB)
    have hRB := Lib.hid (And.intro hS hB)
    clear hn
    go_enter Try.func30, Try.ntmps30
    go_wp2_with fail
    go_loopw [6] (fun i wr => ∃ k : Nat, k ≤ l.length ∧ i = .int .i64 k ∧ Hid (∀ a, a < k → longN l a < m) ∧ w = wr) (fun i _ => l.length - (intOf i).toNat)
    case atStart => exact ⟨0, by omega, rfl, Lib.hid (fun a h => absurd h (Nat.not_lt_zero _)), rfl⟩
    case round =>
      obtain ⟨k, hk, rfl, hI, rfl⟩ := hrel
      by_cases hlt : k < l.length
      · have hlk := hlg k (by omega)
        have hfirst := Lib.hid (fun h => takeL_first hm1 hlt h hI.out)
        have hnx : Hid (longN l k < m → ∀ a, a < k + 1 → longN l a < m) := Lib.hid (fun h a ha => by
          by_cases e : a = k
          · subst e; exact h
          · exact hI.out a (by omega))
        have hallk : longN l k ≥ m → allB l (k : Int) (m : Int) (!false) = true := fun h => by
          obtain ⟨f1, f2⟩ := longN_spec l k
          exact allB_yes (f := false) hm1 (by omega) (fun j hj => f1 (k + j) (by omega) (by omega))
        replace hallk := Lib.hid hallk
        generalize longN l k = L at *
        go_wp2_with fail
        refine hlk.out.mono ?_
        rintro e w2 ⟨rfl, rfl⟩
        by_cases hc : m ≤ L
        · have t3 : decide ((m : Int) ≤ (L : Int)) = true := decide_eq_true (by omega)
          have hr := Lib.hid (hfirst.out hc)
          have hs := (hset (k : Int)).out
          unfold setL at hs
          rw [hallk.out hc, if_pos rfl, Int.toNat_natCast, Int.toNat_natCast] at hs
          replace hs := Lib.hid hs
          clear hfirst hnx hallk hset hlg hlk
          go_wp2_with fail
          refine hs.out.mono ?_
          rintro e w3 ⟨rfl, h1, h2, h3⟩
          go_wp2
          go_ret2
          rw [hr.out]
          exact ⟨rfl, h1, h2, h3⟩
        · have t3 : decide ((m : Int) ≤ (L : Int)) = false := decide_eq_false (by omega)
          have h1 := Lib.hid (hnx.out (by omega))
          clear hfirst hnx hallk hset hlg hlk
          go_wp2
          exact ⟨⟨k + 1, by omega, by go_num, h1, trivial⟩, by simp [intOf]; omega⟩
      · obtain rfl : k = l.length := by omega
        have hr := Lib.hid (takeL_none hm1 hI.out)
        clear hlt hset hlg
        go_wp2
        go_ret2
        rw [hr.out]
        exact ⟨rfl, hRB.out.1, hRB.out.2, World.grownBy.refl w _⟩
end Go.Proofs.Ytacbenjfiabegaa
