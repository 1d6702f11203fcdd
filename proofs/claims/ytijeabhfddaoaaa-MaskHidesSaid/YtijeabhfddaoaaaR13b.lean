/- The walks of the reference of layer 13: finding a share. -/
import Derived.Test.YtijeabhfddaoaaaR13
import Derived.Test.YtijeabhfddaoaaaBf
import Derived.Test.YtijeabhfddaoaaaR03
namespace Go.Proofs.Ytijeabhfddaoaaa
set_option linter.unusedVariables false
open Go.RowKit Go.Proofs.YtijeabhfddaoaaaW.PrintWords Go.Proofs.Sh

set_option maxRecDepth 100000 in
set_option maxHeartbeats 3200000 in
theorem rAmong_c (p : Pl) (h : p.Ok) (n t : Int) (v u : Value) (who : List Int) (parts : List (List F)) (w : World) (hv : Ri w v who) (hu : Rbb w u parts) (hwl : who.length < 1000000) :
   Calls Try.prog 129 #[planV p, .int .i64 n, .int .i64 t, v, u] w fun e w' => e = .returned (.int .i64 (amE p n t who parts)) ∧ Below w.heap.size w w' := by
  have HP := Blk.new w (planC p) 33
  have hB := below_alloc (Below.refl w.heap.size w) (.cells (planC p) 33)
  have hv := hv.below hB
  have hu := hu.below hB
  obtain ⟨A, c, rfl, hc, hr⟩ := hv
  obtain ⟨B, d, rfl, hd, hs⟩ := hu
  have hl := ri_len hr
  have hl2 : parts.length ≤ 9223372036854775807 := hs.2.1
  have hv : Ri _ (.slice A who.length c) who := ⟨A, c, rfl, hc, hr⟩
  have hu : Rbb _ (.slice B parts.length d) parts := ⟨B, d, rfl, hd, hs⟩
  obtain ⟨r1, r2⟩ := tl_range h
  have u1 : IntKind.i64.wrap (p.T + p.L) = p.T + p.L := wrapI _ (by omega) (by omega)
  go_enter Try.func129, Try.ntmps129
  go_wp2_with fail
  generalize w.alloc (.cells (planC p) 33) = w1 at *
  go_loopw [11] (fun i wr => ∃ k : Nat, k ≤ who.length ∧ i = .int .i64 k ∧ Hid ((who.take k).any (bad1 p t) = false) ∧ Below w1.heap.size w1 wr ∧ Below w.heap.size w wr) (fun i _ => who.length - (intOf i).toNat)
  case atStart => exact ⟨0, by omega, rfl, Lib.hid (by simp), Below.refl _ _, hB⟩
  case round =>
    clear hB
    obtain ⟨k, hk, rfl, hn, hB1, hB⟩ := hrel
    by_cases hlt : k < who.length
    · obtain ⟨ad, rfl, d0⟩ := ki_at hr k hlt
      have d0 := pw_cell_below hB1 d0
      have HP := HP.below hB1
      obtain ⟨c0, c1, c2, c3, c4, c5⟩ := cells6 HP
      have hm : Hid (who.getD k 0 ∈ who) := Lib.hid (by rw [List.getD_eq_getElem?_getD, List.getElem?_eq_getElem hlt]; exact List.getElem_mem hlt)
      have HS2 := Lib.hid (any_take_succ who (bad1 p t) 0 k hlt)
      generalize who.getD k 0 = i at *
      by_cases hi : 1 ≤ i ∧ i ≤ p.N
      · have hd := Lib.hid (decide_eq_true hi)
        by_cases hit : i = t
        · have t1 : (i == t) = true := by rw [hit]; simp
          have hb : Hid (amE p n t who parts = 2) := Lib.hid (by
            unfold amE
            rw [if_pos]
            exact List.any_eq_true.2 ⟨i, hm.out, by unfold bad1; rw [decide_eq_true hit]; simp⟩)
          clear hi hit
          go_wp2_with fail
          go_region_held3 (fun w' => w'.cell? ⟨w.heap.size, 0, none⟩ = some (.int .i64 p.N) ∧ w'.cell? ⟨w.heap.size, 1, none⟩ = some (.int .i64 p.T) ∧ w'.cell? ⟨w.heap.size, 2, none⟩ = some (.int .i64 p.L) ∧ w'.cell? ⟨w.heap.size, 3, none⟩ = some (.int .i64 p.W) ∧ w'.cell? ⟨w.heap.size, 4, none⟩ = some (.int .i64 p.S) ∧ w'.cell? ⟨w.heap.size, 5, none⟩ = some (.int .i64 p.R) ∧ w'.cell? (ad.add k) = some (.int .i64 i))
            (go_keep)
            (first
              | (go_at_call 69; refine (rIs_c p i _).mono ?_; rintro e w6 ⟨rfl, h6⟩; (repeat (first | replace h6 := buN h6 | replace h6 := bu h6)); have d0 := pw_cell_below h6 d0; have HP := HP.below h6; obtain ⟨c0, c1, c2, c3, c4, c5⟩ := cells6 HP; have hB1 := bt_ hB1 h6; have hB := bt_ hB h6; rw [hd.out])
              | fail)
          go_wp2
          go_ret
          rw [hb.out]
          exact ⟨rfl, hB⟩
        · have t1 : (i == t) = false := beq_eq_false_iff_ne.2 hit
          have hn2 : Hid ((who.take (k + 1)).any (bad1 p t) = false) := Lib.hid (by
            rw [HS2.out, hn.out]
            unfold bad1
            rw [hd.out, decide_eq_false hit]; rfl)
          clear hi hit
          go_wp2_with fail
          go_region_held3 (fun w' => w'.cell? ⟨w.heap.size, 0, none⟩ = some (.int .i64 p.N) ∧ w'.cell? ⟨w.heap.size, 1, none⟩ = some (.int .i64 p.T) ∧ w'.cell? ⟨w.heap.size, 2, none⟩ = some (.int .i64 p.L) ∧ w'.cell? ⟨w.heap.size, 3, none⟩ = some (.int .i64 p.W) ∧ w'.cell? ⟨w.heap.size, 4, none⟩ = some (.int .i64 p.S) ∧ w'.cell? ⟨w.heap.size, 5, none⟩ = some (.int .i64 p.R) ∧ w'.cell? (ad.add k) = some (.int .i64 i))
            (go_keep)
            (first
              | (go_at_call 69; refine (rIs_c p i _).mono ?_; rintro e w6 ⟨rfl, h6⟩; (repeat (first | replace h6 := buN h6 | replace h6 := bu h6)); have d0 := pw_cell_below h6 d0; have HP := HP.below h6; obtain ⟨c0, c1, c2, c3, c4, c5⟩ := cells6 HP; have hB1 := bt_ hB1 h6; have hB := bt_ hB h6; rw [hd.out])
              | fail)
          go_wp2
          exact ⟨⟨k + 1, by omega, by go_num, hn2, hB1, hB⟩, by simp [intOf]; try omega⟩
      · have hd := Lib.hid (decide_eq_false hi)
        have hb : Hid (amE p n t who parts = 2) := Lib.hid (by
          unfold amE
          rw [if_pos]
          exact List.any_eq_true.2 ⟨i, hm.out, by unfold bad1; rw [hd.out]; simp⟩)
        clear hi
        go_wp2_with fail
        first
          | (go_region_law (first
              | (go_simp; go_at_call 69; refine (rIs_c p i _).mono ?_; rintro e w6 ⟨rfl, h6⟩; (repeat (first | replace h6 := buN h6 | replace h6 := bu h6)); have d0 := pw_cell_below h6 d0; have hB := bt_ hB h6; rw [hd.out])
              | fail))
          | fail
        all_goals
          go_wp2
          go_ret
          rw [hb.out]
          exact ⟨rfl, hB⟩
    · obtain rfl : k = who.length := by omega
      rw [List.take_length] at hn
      have hv := hv.below hB1
      have hu := hu.below hB1
      have HP := HP.below hB1
      clear hB1
      have hgood : Hid (∀ i ∈ who, 1 ≤ i ∧ i ≤ 256) := Lib.hid (fun i hi => by
        have h6 : bad1 p t i = false := by
          cases hb : bad1 p t i with
          | false => rfl
          | true => have := List.any_eq_true.2 ⟨i, hi, hb⟩; rw [hn.out] at this; exact absurd this (by decide)
        unfold bad1 at h6
        simp only [Bool.or_eq_false_iff, Bool.not_eq_false', decide_eq_true_eq, decide_eq_false_iff_not] at h6
        have := h.nl; have := h.l
        omega)
      go_wp2_with fail
      refine (rPoints_c _ _ _ hv hwl).mono ?_
      rintro e w3 ⟨vP, rfl, sP, h3⟩
      have hu := hu.below h3
      have HP := HP.below h3
      have hB := bt_ hB h3
      clear h3 hv
      go_wp2_with fail
      refine (rUnlike_c _ _ _ sP.rk).mono ?_
      rintro e w4 ⟨rfl, h4⟩
      have hu := hu.below h4.below
      have HP := HP.below h4.below
      have hB := bd hB h4
      clear h4
      obtain ⟨c0, c1, c2, c3, c4, c5⟩ := cells6 HP
      clear sP
      by_cases g2 : who.Nodup
      · have e2 : Hid (decide ((who.map point).Nodup) = true) := Lib.hid (decide_eq_true ((nodup_points hgood.out).2 g2))
        rw [e2.out]
        by_cases g3 : (who.length : Int) < p.T + p.L
        · have hf : Hid (amE p n t who parts = 6) := Lib.hid (by
            unfold amE
            rw [if_neg (by rw [hn.out]; simp), if_neg (fun h => h g2), if_pos g3])
          have t3 : decide ((who.length : Int) < p.T + p.L) = true := decide_eq_true g3
          clear g2
          go_wp2
          go_ret
          rw [hf.out]
          exact ⟨rfl, hB⟩
        · have t3 : decide ((who.length : Int) < p.T + p.L) = false := decide_eq_false g3
          have g3 := Lib.hid g3
          by_cases g4 : parts.length = who.length
          · have t4 : ((parts.length : Int) != (who.length : Int)) = false := by rw [g4]; simp
            replace g4 := Lib.hid g4
            replace g2 := Lib.hid g2
            have hs2 := rk_C hu
            go_wp2_with fail
            go_loop [12] (fun i => ∃ k : Nat, k ≤ parts.length ∧ i = .int .i64 k ∧ Hid ((parts.take k).any (bad2 n) = false)) (fun i => parts.length - (intOf i).toNat)
            case atStart => exact ⟨0, by omega, rfl, Lib.hid (by simp)⟩
            case round =>
              obtain ⟨k, hk, rfl, hn5⟩ := hrel
              by_cases hlt : k < parts.length
              · obtain ⟨ad, u5, rfl, d0, hu5⟩ := kbb_at hs2 k hlt
                have hm : Hid (parts.getD k [] ∈ parts) := Lib.hid (by rw [List.getD_eq_getElem?_getD, List.getElem?_eq_getElem hlt]; exact List.getElem_mem hlt)
                have HS5 := Lib.hid (any_take_succ parts (bad2 n) [] k hlt)
                generalize parts.getD k [] = r at *
                obtain ⟨A9, c9, rfl⟩ := rk_form hu5
                cases hb : bad2 n r with
                | true =>
                  have t5 : ((r.length : Int) != n) = true := hb
                  have hf : Hid (amE p n t who parts = 3) := Lib.hid (by
                    unfold amE
                    rw [if_neg (by rw [hn.out]; simp), if_neg (fun h => h g2.out), if_neg (by have := g3.out; omega : ¬ ((who.length : Int) < p.T + p.L)), if_neg (fun e => e g4.out), if_pos (List.any_eq_true.2 ⟨r, hm.out, hb⟩)])
                  clear hb
                  go_wp2
                  go_ret
                  rw [hf.out]
                  exact ⟨rfl, hB⟩
                | false =>
                  have t5 : ((r.length : Int) != n) = false := hb
                  have hn6 : Hid ((parts.take (k + 1)).any (bad2 n) = false) := Lib.hid (by rw [HS5.out, hn5.out, hb]; rfl)
                  clear hb
                  go_wp2
                  exact ⟨⟨k + 1, by omega, by go_num, hn6⟩, by simp [intOf]; try omega⟩
              · obtain rfl : k = parts.length := by omega
                have hf : Hid (amE p n t who parts = 0) := Lib.hid (by
                  have h5 := hn5.out
                  rw [List.take_length] at h5
                  unfold amE
                  rw [if_neg (by rw [hn.out]; simp), if_neg (fun h => h g2.out), if_neg (by have := g3.out; omega : ¬ ((who.length : Int) < p.T + p.L)), if_neg (fun e => e g4.out), if_neg (by rw [h5]; simp)])
                go_wp2
                go_ret
                rw [hf.out]
                exact ⟨rfl, hB⟩
          · have hf : Hid (amE p n t who parts = 3) := Lib.hid (by
              unfold amE
              rw [if_neg (by rw [hn.out]; simp), if_neg (fun h => h g2), if_neg (by have := g3.out; omega : ¬ ((who.length : Int) < p.T + p.L)), if_pos g4])
            have t4 : ((parts.length : Int) != (who.length : Int)) = true := bne_iff_ne.2 (by omega)
            clear g2
            go_wp2
            go_ret
            rw [hf.out]
            exact ⟨rfl, hB⟩
      · have e2 : Hid (decide ((who.map point).Nodup) = false) := Lib.hid (decide_eq_false (fun e => g2 ((nodup_points hgood.out).1 e)))
        have hf : Hid (amE p n t who parts = 5) := Lib.hid (by
          unfold amE
          rw [if_neg (by rw [hn.out]; simp), if_pos g2])
        rw [e2.out]
        clear g2
        go_wp2
        go_ret
        rw [hf.out]
        exact ⟨rfl, hB⟩
end Go.Proofs.Ytijeabhfddaoaaa
