/- The walk of the reference's New. -/
import Derived.Test.YtacbenjfiabegaaTf
import Derived.Test.YtacbenjfiabegaaK4
namespace Go.Proofs.Ytacbenjfiabegaa
set_option linter.unusedVariables false
set_option linter.unusedSimpArgs false
open Go.RowKit Go.Proofs.YtacbenjfiabegaaW.PrintWords Go.Proofs.Sh

set_option maxRecDepth 100000 in
set_option maxHeartbeats 3200000 in
theorem rNew_c (n : Int) (w : World) :
   Calls Try.prog 28 #[.int .i64 n] w fun e w' => ∃ b g c, e = .returned (.pointer (some ⟨b, 0, none⟩)) ∧ Sm w w' b g c (List.replicate (newN n) true) ∧ Below w.heap.size w w' := by
  obtain ⟨m, hm⟩ : ∃ m, m = newN n := ⟨_, rfl⟩
  have hm2 := newN_b n
  rw [← hm] at hm2 ⊢
  by_cases h1 : n < 1
  · have t1 : decide (n < 1) = true := decide_eq_true h1
    have hm1 : m = 1 := by rw [hm]; exact if_pos h1
    clear hm
    replace hm1 := Lib.hid hm1
    go_enter Try.func28, Try.ntmps28
    go_wp2_with fail
    have hbx0 := Blk.new w #[.slice none 0 0] 75
    have hB0 := below_alloc (Below.refl w.heap.size w) (.cells #[.slice none 0 0] 75)
    generalize w.alloc (.cells #[.slice none 0 0] 75) = w1 at *
    have hbb : Hid (w.heap.size ≤ w.heap.size) := Lib.hid (Nat.le_refl _)
    obtain ⟨b, hb⟩ : ∃ b, b = w.heap.size := ⟨_, rfl⟩
    rw [← hb] at hbx0
    rw [← hb]
    replace hb := Lib.hid hb
    go_loopw [4] (fun i wr => ∃ (k : Nat) (v : Value), k ≤ m ∧ i = .int .i64 k ∧ Blk wr b #[v] 75 ∧ Ol w wr v (List.replicate k true) ∧ Below w.heap.size w wr) (fun i _ => m - (intOf i).toNat)
    case atStart => exact ⟨0, _, by omega, rfl, hbx0, Own.nil _ _ _ _, hB0⟩
    case round =>
      clear hbx0 hB0
      obtain ⟨k, v, hk, rfl, hbx, hO, hB⟩ := hrel
      obtain ⟨A, c, rfl⟩ := rk_form (Own.rk hO)
      have c0 := hbx.one
      have hne := own_ne (ol_own hO) hbx (by decide)
      by_cases hlt : k < m
      · have t7 : decide ((k : Int) < 1) = true := decide_eq_true (by have := hm1.out; omega)
        obtain rfl : k = 0 := by have := hm1.out; omega
        have hrs := Lib.hid (List.replicate_succ' (n := 0) (a := true))
        rw [List.length_replicate] at *
        have hl9 : (List.replicate 0 true).length = 0 := List.length_replicate
        generalize List.replicate 0 true = lk at *
        go_wp2_with (at_builtin; refine app_one (enc := Value.bool) rfl (.tmp 20) (.tmp 21) 50 4 (.bool false) 1 rfl Try.underlying50 infoBool rfl (by decide) _ _ true rfl rfl _ rfl hO hB ?hl ?_; (case hl => rw [hl9]; omega); intro v1 w2 ho hb2 hg; have hbx2 := blk_grown hbx hg hne; have z1 := blk_cell hbx2 0; have z2 := blk_frozen hbx2 0; obtain ⟨A1, n1, rfl⟩ := rk_form (Own.rk ho); have z1 : w2.cell? ⟨b, 0, none⟩ = some (.slice A 0 c) := z1)
        have ho2 : Ol w w2 (.slice A1 (0 + 1) n1) (lk ++ [true]) := by
          have hk9 : (lk ++ [true]).length = 0 + 1 := by
            obtain ⟨_, _, e, _, _⟩ := Own.rk hO
            injection e with _ e _
            rw [List.length_append, ← e]
            rfl
          rw [hk9] at ho
          exact ho
        have hb3 : Blk w2 b #[.slice A 0 c] 75 := hbx2
        refine ⟨⟨0 + 1, _, by omega, by go_num, hb3.put _, ?_, below_set hb2 (by have := hb.out; omega)⟩, by simp [intOf]; omega⟩
        rw [hrs.out]
        exact own_ol (own_setCell (ol_own ho2) (p := ⟨b, 0, none⟩) (own_ne (ol_own ho2) hb3 (by decide)) _)
      · obtain rfl : k = m := by omega
        have t7 : decide ((k : Int) < 1) = false := decide_eq_false (by have := hm1.out; omega)
        obtain ⟨g, c', e, _, _⟩ := Ol.form hO (by rw [List.length_replicate]; omega)
        rw [e] at hO hbx
        have hS : Sm w wr b g c' (List.replicate k true) := ⟨by have := hb.out; omega, hbx, hO⟩
        clear hbx hO c0 hne e
        go_wp2
        go_ret
        exact ⟨b, g, c', rfl, hS, hB⟩
  have t1 : decide (n < 1) = false := decide_eq_false h1
  by_cases h2 : 256 < n
  · have t2 : decide (256 < n) = true := decide_eq_true h2
    have hm1 : m = 256 := by rw [hm]; unfold newN; rw [if_neg h1, if_pos h2]
    clear hm
    replace hm1 := Lib.hid hm1
    go_enter Try.func28, Try.ntmps28
    go_wp2_with fail
    have hbx0 := Blk.new w #[.slice none 0 0] 75
    have hB0 := below_alloc (Below.refl w.heap.size w) (.cells #[.slice none 0 0] 75)
    generalize w.alloc (.cells #[.slice none 0 0] 75) = w1 at *
    have hbb : Hid (w.heap.size ≤ w.heap.size) := Lib.hid (Nat.le_refl _)
    obtain ⟨b, hb⟩ : ∃ b, b = w.heap.size := ⟨_, rfl⟩
    rw [← hb] at hbx0
    rw [← hb]
    replace hb := Lib.hid hb
    go_loopw [4] (fun i wr => ∃ (k : Nat) (v : Value), k ≤ m ∧ i = .int .i64 k ∧ Blk wr b #[v] 75 ∧ Ol w wr v (List.replicate k true) ∧ Below w.heap.size w wr) (fun i _ => m - (intOf i).toNat)
    case atStart => exact ⟨0, _, by omega, rfl, hbx0, Own.nil _ _ _ _, hB0⟩
    case round =>
      clear hbx0 hB0
      obtain ⟨k, v, hk, rfl, hbx, hO, hB⟩ := hrel
      obtain ⟨A, c, rfl⟩ := rk_form (Own.rk hO)
      have c0 := hbx.one
      have hne := own_ne (ol_own hO) hbx (by decide)
      by_cases hlt : k < m
      · have t7 : decide ((k : Int) < 256) = true := decide_eq_true (by have := hm1.out; omega)
        skip
        have hrs := Lib.hid (List.replicate_succ' (n := k) (a := true))
        rw [List.length_replicate] at *
        have hl9 : (List.replicate k true).length = k := List.length_replicate
        generalize List.replicate k true = lk at *
        go_wp2_with (at_builtin; refine app_one (enc := Value.bool) rfl (.tmp 20) (.tmp 21) 50 4 (.bool false) 1 rfl Try.underlying50 infoBool rfl (by decide) _ _ true rfl rfl _ rfl hO hB ?hl ?_; (case hl => rw [hl9]; omega); intro v1 w2 ho hb2 hg; have hbx2 := blk_grown hbx hg hne; have z1 := blk_cell hbx2 0; have z2 := blk_frozen hbx2 0; obtain ⟨A1, n1, rfl⟩ := rk_form (Own.rk ho); have z1 : w2.cell? ⟨b, 0, none⟩ = some (.slice A k c) := z1)
        have ho2 : Ol w w2 (.slice A1 (k + 1) n1) (lk ++ [true]) := by
          have hk9 : (lk ++ [true]).length = k + 1 := by
            obtain ⟨_, _, e, _, _⟩ := Own.rk hO
            injection e with _ e _
            rw [List.length_append, ← e]
            rfl
          rw [hk9] at ho
          exact ho
        have hb3 : Blk w2 b #[.slice A k c] 75 := hbx2
        refine ⟨⟨k + 1, _, by omega, by go_num, hb3.put _, ?_, below_set hb2 (by have := hb.out; omega)⟩, by simp [intOf]; omega⟩
        rw [hrs.out]
        exact own_ol (own_setCell (ol_own ho2) (p := ⟨b, 0, none⟩) (own_ne (ol_own ho2) hb3 (by decide)) _)
      · obtain rfl : k = m := by omega
        have t7 : decide ((k : Int) < 256) = false := decide_eq_false (by have := hm1.out; omega)
        obtain ⟨g, c', e, _, _⟩ := Ol.form hO (by rw [List.length_replicate]; omega)
        rw [e] at hO hbx
        have hS : Sm w wr b g c' (List.replicate k true) := ⟨by have := hb.out; omega, hbx, hO⟩
        clear hbx hO c0 hne e
        go_wp2
        go_ret
        exact ⟨b, g, c', rfl, hS, hB⟩
  · have t2 : decide (256 < n) = false := decide_eq_false h2
    have hm1 : (m : Int) = n := by rw [hm]; unfold newN; rw [if_neg h1, if_neg h2]; omega
    clear hm
    replace hm1 := Lib.hid hm1
    go_enter Try.func28, Try.ntmps28
    go_wp2_with fail
    have hbx0 := Blk.new w #[.slice none 0 0] 75
    have hB0 := below_alloc (Below.refl w.heap.size w) (.cells #[.slice none 0 0] 75)
    generalize w.alloc (.cells #[.slice none 0 0] 75) = w1 at *
    have hbb : Hid (w.heap.size ≤ w.heap.size) := Lib.hid (Nat.le_refl _)
    obtain ⟨b, hb⟩ : ∃ b, b = w.heap.size := ⟨_, rfl⟩
    rw [← hb] at hbx0
    rw [← hb]
    replace hb := Lib.hid hb
    go_loopw [4] (fun i wr => ∃ (k : Nat) (v : Value), k ≤ m ∧ i = .int .i64 k ∧ Blk wr b #[v] 75 ∧ Ol w wr v (List.replicate k true) ∧ Below w.heap.size w wr) (fun i _ => m - (intOf i).toNat)
    case atStart => exact ⟨0, _, by omega, rfl, hbx0, Own.nil _ _ _ _, hB0⟩
    case round =>
      clear hbx0 hB0
      obtain ⟨k, v, hk, rfl, hbx, hO, hB⟩ := hrel
      obtain ⟨A, c, rfl⟩ := rk_form (Own.rk hO)
      have c0 := hbx.one
      have hne := own_ne (ol_own hO) hbx (by decide)
      by_cases hlt : k < m
      · have t7 : decide ((k : Int) < n) = true := decide_eq_true (by have := hm1.out; omega)
        skip
        have hrs := Lib.hid (List.replicate_succ' (n := k) (a := true))
        rw [List.length_replicate] at *
        have hl9 : (List.replicate k true).length = k := List.length_replicate
        generalize List.replicate k true = lk at *
        go_wp2_with (at_builtin; refine app_one (enc := Value.bool) rfl (.tmp 20) (.tmp 21) 50 4 (.bool false) 1 rfl Try.underlying50 infoBool rfl (by decide) _ _ true rfl rfl _ rfl hO hB ?hl ?_; (case hl => rw [hl9]; omega); intro v1 w2 ho hb2 hg; have hbx2 := blk_grown hbx hg hne; have z1 := blk_cell hbx2 0; have z2 := blk_frozen hbx2 0; obtain ⟨A1, n1, rfl⟩ := rk_form (Own.rk ho); have z1 : w2.cell? ⟨b, 0, none⟩ = some (.slice A k c) := z1)
        have ho2 : Ol w w2 (.slice A1 (k + 1) n1) (lk ++ [true]) := by
          have hk9 : (lk ++ [true]).length = k + 1 := by
            obtain ⟨_, _, e, _, _⟩ := Own.rk hO
            injection e with _ e _
            rw [List.length_append, ← e]
            rfl
          rw [hk9] at ho
          exact ho
        have hb3 : Blk w2 b #[.slice A k c] 75 := hbx2
        refine ⟨⟨k + 1, _, by omega, by go_num, hb3.put _, ?_, below_set hb2 (by have := hb.out; omega)⟩, by simp [intOf]; omega⟩
        rw [hrs.out]
        exact own_ol (own_setCell (ol_own ho2) (p := ⟨b, 0, none⟩) (own_ne (ol_own ho2) hb3 (by decide)) _)
      · obtain rfl : k = m := by omega
        have t7 : decide ((k : Int) < n) = false := decide_eq_false (by have := hm1.out; omega)
        obtain ⟨g, c', e, _, _⟩ := Ol.form hO (by rw [List.length_replicate]; omega)
        rw [e] at hO hbx
        have hS : Sm w wr b g c' (List.replicate k true) := ⟨by have := hb.out; omega, hbx, hO⟩
        clear hbx hO c0 hne e
        go_wp2
        go_ret
        exact ⟨b, g, c', rfl, hS, hB⟩
end Go.Proofs.Ytacbenjfiabegaa
