/- The walk of the reference of layer 11: Check. -/
import Derived.Test.YtijeabhfddaoaaaRg
import Derived.Test.YtijeabhfddaoaaaR13b
namespace Go.Proofs.Ytijeabhfddaoaaa
set_option linter.unusedVariables false
open Go.RowKit Go.Proofs.YtijeabhfddaoaaaW.PrintWords Go.Proofs.Sh

theorem chE_any {p : Pl} {n : Int} {who : List Int} {sh : List (List F)} (hn : 0 ≤ n ∧ n ≤ 240) (h : who.any (badR p) = true) : chE p n who sh = 2 := by
  unfold chE fst7
  rw [if_pos hn, if_pos h]
  rfl
theorem chE_dup {p : Pl} {n : Int} {who : List Int} {sh : List (List F)} (hn : 0 ≤ n ∧ n ≤ 240) (h : who.any (badR p) = false) (h2 : ¬ who.Nodup) : chE p n who sh = 5 := by
  unfold chE fst7
  rw [if_pos hn, h, decide_eq_false h2]
  rfl
theorem chE_few {p : Pl} {n : Int} {who : List Int} {sh : List (List F)} (hn : 0 ≤ n ∧ n ≤ 240) (h : who.any (badR p) = false) (h2 : who.Nodup) (h3 : (who.length : Int) < p.T + p.L) : chE p n who sh = 6 := by
  unfold chE fst7
  rw [if_pos hn, h, decide_eq_true h2, decide_eq_true h3]
  rfl
theorem chE_len {p : Pl} {n : Int} {who : List Int} {sh : List (List F)} (hn : 0 ≤ n ∧ n ≤ 240) (h : who.any (badR p) = false) (h2 : who.Nodup) (h3 : ¬ (who.length : Int) < p.T + p.L) (h4 : ((sh.length : Int) != (who.length : Int)) = true) : chE p n who sh = 3 := by
  unfold chE fst7
  rw [if_pos hn, h, decide_eq_true h2, decide_eq_false h3, h4]
  rfl
theorem chE_row {p : Pl} {n : Int} {who : List Int} {sh : List (List F)} (hn : 0 ≤ n ∧ n ≤ 240) (h : who.any (badR p) = false) (h2 : who.Nodup) (h3 : ¬ (who.length : Int) < p.T + p.L) (h4 : ((sh.length : Int) != (who.length : Int)) = false) (h5 : sh.any (bad3 (stripesOf p n)) = true) : chE p n who sh = 3 := by
  unfold chE fst7
  rw [if_pos hn, h, decide_eq_true h2, decide_eq_false h3, h4, h5]
  rfl
theorem chE_zero {p : Pl} {n : Int} {who : List Int} {sh : List (List F)} (hn : 0 ≤ n ∧ n ≤ 240) (h : who.any (badR p) = false) (h2 : who.Nodup) (h3 : ¬ (who.length : Int) < p.T + p.L) (h4 : ((sh.length : Int) != (who.length : Int)) = false) (h5 : sh.any (bad3 (stripesOf p n)) = false) : chE p n who sh = 0 := by
  unfold chE fst7
  rw [if_pos hn, h, decide_eq_true h2, decide_eq_false h3, h4, h5]
  rfl
theorem chE_two {p : Pl} {n : Int} {who : List Int} {sh : List (List F)} (hn : ¬ (0 ≤ n ∧ n ≤ 240)) : chE p n who sh = 2 := by
  unfold chE fst7
  rw [if_neg hn]
  rfl
set_option maxRecDepth 100000 in
set_option maxHeartbeats 1600000 in
theorem rCheck11_no (p : Pl) (hi : p.In) (h : ¬ p.Ok) (n : Int) (v u : Value) (who : List Int) (sh : List (List F)) (w : World) (hv : Ri w v who) (hu : Rbb w u sh) :
   Calls Try.prog 150 #[planV p, .int .i64 n, v, u] w fun e w' => e = .returned (.int .i64 1) ∧ Below w.heap.size w w' := by
  have HP := Blk.new w (planC p) 33
  have hB := below_alloc (Below.refl w.heap.size w) (.cells (planC p) 33)
  have hv := hv.below hB
  have hu := hu.below hB
  obtain ⟨A, c, rfl, hc, hr⟩ := hv
  obtain ⟨B, d, rfl, hd, hs⟩ := hu
  have hl := ri_len hr
  have hl2 : sh.length ≤ 9223372036854775807 := hs.2.1
  have hv : Ri _ (.slice A who.length c) who := ⟨A, c, rfl, hc, hr⟩
  have hu : Rbb _ (.slice B sh.length d) sh := ⟨B, d, rfl, hd, hs⟩
  go_enter Try.func150, Try.ntmps150
  go_wp2_with fail
  refine (rRight_no p hi h _).mono ?_
  rintro e w1 ⟨rfl, h1⟩
  go_wp2
  go_ret
  exact ⟨rfl, bt_ hB h1⟩
set_option maxRecDepth 100000 in
set_option maxHeartbeats 1600000 in
theorem rCheck11_two1 (p : Pl) (h : p.Ok) (n : Int) (hn : n < 0) (v u : Value) (who : List Int) (sh : List (List F)) (w : World) (hv : Ri w v who) (hu : Rbb w u sh) :
   Calls Try.prog 150 #[planV p, .int .i64 n, v, u] w fun e w' => e = .returned (.int .i64 (chE p n who sh)) ∧ Below w.heap.size w w' := by
  rw [chE_two (by omega)]
  have HP := Blk.new w (planC p) 33
  have hB := below_alloc (Below.refl w.heap.size w) (.cells (planC p) 33)
  have hv := hv.below hB
  have hu := hu.below hB
  obtain ⟨A, c, rfl, hc, hr⟩ := hv
  obtain ⟨B, d, rfl, hd, hs⟩ := hu
  have hl := ri_len hr
  have hl2 : sh.length ≤ 9223372036854775807 := hs.2.1
  have hv : Ri _ (.slice A who.length c) who := ⟨A, c, rfl, hc, hr⟩
  have hu : Rbb _ (.slice B sh.length d) sh := ⟨B, d, rfl, hd, hs⟩
  have t1 : decide (n < 0) = true := decide_eq_true (by omega)
  have t2 : decide (240 < n) = false := decide_eq_false (by omega)
  go_enter Try.func150, Try.ntmps150
  go_wp2_with fail
  refine (rRight_yes p h _).mono ?_
  rintro e w1 ⟨rfl, h1⟩
  go_wp2
  go_ret
  exact ⟨rfl, bt_ hB h1⟩
set_option maxRecDepth 100000 in
set_option maxHeartbeats 1600000 in
theorem rCheck11_two2 (p : Pl) (h : p.Ok) (n : Int) (hn : 240 < n) (v u : Value) (who : List Int) (sh : List (List F)) (w : World) (hv : Ri w v who) (hu : Rbb w u sh) :
   Calls Try.prog 150 #[planV p, .int .i64 n, v, u] w fun e w' => e = .returned (.int .i64 (chE p n who sh)) ∧ Below w.heap.size w w' := by
  rw [chE_two (by omega)]
  have HP := Blk.new w (planC p) 33
  have hB := below_alloc (Below.refl w.heap.size w) (.cells (planC p) 33)
  have hv := hv.below hB
  have hu := hu.below hB
  obtain ⟨A, c, rfl, hc, hr⟩ := hv
  obtain ⟨B, d, rfl, hd, hs⟩ := hu
  have hl := ri_len hr
  have hl2 : sh.length ≤ 9223372036854775807 := hs.2.1
  have hv : Ri _ (.slice A who.length c) who := ⟨A, c, rfl, hc, hr⟩
  have hu : Rbb _ (.slice B sh.length d) sh := ⟨B, d, rfl, hd, hs⟩
  have t1 : decide (n < 0) = false := decide_eq_false (by omega)
  have t2 : decide (240 < n) = true := decide_eq_true (by omega)
  go_enter Try.func150, Try.ntmps150
  go_wp2_with fail
  refine (rRight_yes p h _).mono ?_
  rintro e w1 ⟨rfl, h1⟩
  go_wp2
  go_ret
  exact ⟨rfl, bt_ hB h1⟩
set_option maxRecDepth 100000 in
set_option maxHeartbeats 3200000 in
theorem rCheck11_c (p : Pl) (h : p.Ok) (n : Int) (hn : 0 ≤ n ∧ n ≤ 240) (v u : Value) (who : List Int) (sh : List (List F)) (w : World) (hv : Ri w v who) (hu : Rbb w u sh) (hwl : who.length < 1000000) :
   Calls Try.prog 150 #[planV p, .int .i64 n, v, u] w fun e w' => e = .returned (.int .i64 (chE p n who sh)) ∧ Below w.heap.size w w' := by
  have HP := Blk.new w (planC p) 33
  have hB := below_alloc (Below.refl w.heap.size w) (.cells (planC p) 33)
  have hv := hv.below hB
  have hu := hu.below hB
  obtain ⟨A, c, rfl, hc, hr⟩ := hv
  obtain ⟨B, d, rfl, hd, hs⟩ := hu
  have hl := ri_len hr
  have hl2 : sh.length ≤ 9223372036854775807 := hs.2.1
  have hv : Ri _ (.slice A who.length c) who := ⟨A, c, rfl, hc, hr⟩
  have hu : Rbb _ (.slice B sh.length d) sh := ⟨B, d, rfl, hd, hs⟩
  have t1 : decide (n < 0) = false := decide_eq_false (by omega)
  have t2 : decide (240 < n) = false := decide_eq_false (by omega)
  obtain ⟨r1, r2⟩ := tl_range h
  have u1 : IntKind.i64.wrap (p.T + p.L) = p.T + p.L := wrapI _ (by omega) (by omega)
  replace hn := Lib.hid hn
  go_enter Try.func150, Try.ntmps150
  go_wp2_with fail
  refine (rRight_yes p h _).mono ?_
  rintro e w1 ⟨rfl, h1⟩
  replace HP := HP.below h1
  replace hv := hv.below h1
  replace hu := hu.below h1
  replace hB := bt_ hB h1
  clear h1 hr hs
  have hr := rk_C hv
  go_wp2_with fail
  clear t1 t2
  go_loopw [9] (fun i wr => ∃ k : Nat, k ≤ who.length ∧ i = .int .i64 k ∧ Hid ((who.take k).any (badR p) = false) ∧ Below w1.heap.size w1 wr ∧ Below w.heap.size w wr) (fun i _ => who.length - (intOf i).toNat)
  case atStart => exact ⟨0, by omega, rfl, Lib.hid (by simp), Below.refl _ _, hB⟩
  case round =>
    clear hB
    obtain ⟨k, hk, rfl, hnn, hB1, hB⟩ := hrel
    by_cases hlt : k < who.length
    · obtain ⟨ad, rfl, d0⟩ := ki_at hr k hlt
      have d0 := pw_cell_below hB1 d0
      have HP := HP.below hB1
      obtain ⟨c0, c1, c2, c3, c4, c5⟩ := cells6 HP
      have hm : Hid (who.getD k 0 ∈ who) := Lib.hid (by rw [List.getD_eq_getElem?_getD, List.getElem?_eq_getElem hlt]; exact List.getElem_mem hlt)
      have HS2 := Lib.hid (any_take_succ who (badR p) 0 k hlt)
      generalize who.getD k 0 = i at *
      by_cases hi : 1 ≤ i ∧ i ≤ p.N
      · have hd := Lib.hid (decide_eq_true hi)
        have hn2 : Hid ((who.take (k + 1)).any (badR p) = false) := Lib.hid (by
          rw [HS2.out, hnn.out]
          unfold badR
          rw [hd.out]; rfl)
        clear hi
        go_wp2_with fail
        go_region_held3 (fun w' => w'.cell? ⟨w.heap.size, 0, none⟩ = some (.int .i64 p.N) ∧ w'.cell? ⟨w.heap.size, 1, none⟩ = some (.int .i64 p.T) ∧ w'.cell? ⟨w.heap.size, 2, none⟩ = some (.int .i64 p.L) ∧ w'.cell? ⟨w.heap.size, 3, none⟩ = some (.int .i64 p.W) ∧ w'.cell? ⟨w.heap.size, 4, none⟩ = some (.int .i64 p.S) ∧ w'.cell? ⟨w.heap.size, 5, none⟩ = some (.int .i64 p.R) ∧ w'.cell? (ad.add k) = some (.int .i64 i))
          (go_keep)
          (first
            | (go_at_call 69; refine (rIs_c p i _).mono ?_; rintro e w6 ⟨rfl, h6⟩; (repeat (first | replace h6 := buN h6 | replace h6 := bu h6)); have d0 := pw_cell_below h6 d0; have HP := HP.below h6; obtain ⟨c0, c1, c2, c3, c4, c5⟩ := cells6 HP; have hB1 := bt_ hB1 h6; have hB := bt_ hB h6; rw [hd.out])
            | fail)
        go_wp2
        exact ⟨⟨k + 1, by omega, by go_num, hn2, hB1, hB⟩, by simp [intOf]; try omega⟩
      · have hd := Lib.hid (decide_eq_false hi)
        have hb : Hid (chE p n who sh = 2) := Lib.hid (chE_any hn.out (List.any_eq_true.2 ⟨i, hm.out, by unfold badR; rw [hd.out]; rfl⟩))
        clear hi
        go_wp2_with fail
        go_region_held3 (fun w' => w'.cell? ⟨w.heap.size, 0, none⟩ = some (.int .i64 p.N) ∧ w'.cell? ⟨w.heap.size, 1, none⟩ = some (.int .i64 p.T) ∧ w'.cell? ⟨w.heap.size, 2, none⟩ = some (.int .i64 p.L) ∧ w'.cell? ⟨w.heap.size, 3, none⟩ = some (.int .i64 p.W) ∧ w'.cell? ⟨w.heap.size, 4, none⟩ = some (.int .i64 p.S) ∧ w'.cell? ⟨w.heap.size, 5, none⟩ = some (.int .i64 p.R) ∧ w'.cell? (ad.add k) = some (.int .i64 i))
          (go_keep)
          (first
            | (go_at_call 69; refine (rIs_c p i _).mono ?_; rintro e w6 ⟨rfl, h6⟩; (repeat (first | replace h6 := buN h6 | replace h6 := bu h6)); have d0 := pw_cell_below h6 d0; have HP := HP.below h6; obtain ⟨c0, c1, c2, c3, c4, c5⟩ := cells6 HP; have hB1 := bt_ hB1 h6; have hB := bt_ hB h6; rw [hd.out])
            | fail)
        go_wp2
        go_ret
        rw [hb.out]
        exact ⟨rfl, hB⟩
    · obtain rfl : k = who.length := by omega
      rw [List.take_length] at hnn
      have hv := hv.below hB1
      have hu := hu.below hB1
      have HP := HP.below hB1
      clear hB1 hr
      have hgood : Hid (∀ i ∈ who, 1 ≤ i ∧ i ≤ 256) := Lib.hid (fun i hi => by
        have h6 : badR p i = false := by
          cases hb : badR p i with
          | false => rfl
          | true => have := List.any_eq_true.2 ⟨i, hi, hb⟩; rw [hnn.out] at this; exact absurd this (by decide)
        unfold badR at h6
        simp only [Bool.not_eq_false', decide_eq_true_eq] at h6
        have := h.nl; have := h.l
        omega)
      go_wp2_with fail
      refine (rPoints_c _ _ _ hv hwl).mono ?_
      rintro e w3 ⟨vP, rfl, sP, h3⟩
      have hu := hu.below h3
      have HP := HP.below h3
      have hB := bt_ hB h3
      clear h3 hv
      go_wp2_with fail
      refine (rUnlike_c _ _ _ sP.rk).mono ?_
      rintro e w4 ⟨rfl, h4⟩
      have hu := hu.below h4.below
      have HP := HP.below h4.below
      have hB := bd hB h4
      clear h4
      obtain ⟨c0, c1, c2, c3, c4, c5⟩ := cells6 HP
      clear sP
      by_cases g2 : who.Nodup
      · have e2 : Hid (decide ((who.map point).Nodup) = true) := Lib.hid (decide_eq_true ((nodup_points hgood.out).2 g2))
        rw [e2.out]
        by_cases g3 : (who.length : Int) < p.T + p.L
        · have hf : Hid (chE p n who sh = 6) := Lib.hid (chE_few hn.out hnn.out g2 g3)
          have t3 : decide ((who.length : Int) < p.T + p.L) = true := decide_eq_true g3
          clear g2
          go_wp2
          go_ret
          rw [hf.out]
          exact ⟨rfl, hB⟩
        · have t3 : decide ((who.length : Int) < p.T + p.L) = false := decide_eq_false g3
          replace g3 := Lib.hid g3
          replace g2 := Lib.hid g2
          by_cases g4 : sh.length = who.length
          · have t4 : ((sh.length : Int) != (who.length : Int)) = false := by rw [g4]; simp
            replace g4 := Lib.hid g4
            have hs2 := rk_C hu
            have t4' := Lib.hid t4
            clear c0 c1 c2 c3 c4 c5
            obtain ⟨c0, c1, c2, c3, c4, c5⟩ := cells6 HP
            go_wp2_with fail
            clear t4 t3 c0 c1 c2 c3 c4 c5
            go_loopw [10] (fun i wr => ∃ k : Nat, k ≤ sh.length ∧ i = .int .i64 k ∧ Hid ((sh.take k).any (bad3 (stripesOf p n)) = false) ∧ Below w4.heap.size w4 wr ∧ Below w.heap.size w wr) (fun i _ => sh.length - (intOf i).toNat)
            case atStart => exact ⟨0, by omega, rfl, Lib.hid (by simp), Below.refl _ _, hB⟩
            case round =>
              clear hB
              obtain ⟨k, hk, rfl, hn5, hB1, hB⟩ := hrel
              by_cases hlt : k < sh.length
              · obtain ⟨ad, u5, rfl, d0, hu5⟩ := kbb_at hs2 k hlt
                have hm : Hid (sh.getD k [] ∈ sh) := Lib.hid (by rw [List.getD_eq_getElem?_getD, List.getElem?_eq_getElem hlt]; exact List.getElem_mem hlt)
                have HS5 := Lib.hid (any_take_succ sh (bad3 (stripesOf p n)) [] k hlt)
                generalize sh.getD k [] = r at *
                obtain ⟨A9, c9, rfl⟩ := rk_form hu5
                have d0 := pw_cell_below hB1 d0
                have HP := HP.below hB1
                obtain ⟨c0, c1, c2, c3, c4, c5⟩ := cells6 HP
                clear hu5
                cases hb : bad3 (stripesOf p n) r with
                | true =>
                  have t5 : ((r.length : Int) != stripesOf p n) = true := hb
                  have hf : Hid (chE p n who sh = 3) := Lib.hid (chE_row hn.out hnn.out g2.out (by have := g3.out; omega) t4'.out (List.any_eq_true.2 ⟨r, hm.out, hb⟩))
                  clear hb
                  go_wp2_with fail
                  go_region_held3 (fun w' => w'.cell? ⟨w.heap.size, 0, none⟩ = some (.int .i64 p.N) ∧ w'.cell? ⟨w.heap.size, 1, none⟩ = some (.int .i64 p.T) ∧ w'.cell? ⟨w.heap.size, 2, none⟩ = some (.int .i64 p.L) ∧ w'.cell? ⟨w.heap.size, 3, none⟩ = some (.int .i64 p.W) ∧ w'.cell? ⟨w.heap.size, 4, none⟩ = some (.int .i64 p.S) ∧ w'.cell? ⟨w.heap.size, 5, none⟩ = some (.int .i64 p.R) ∧ w'.cell? (ad.add k) = some (.slice A9 r.length c9))
                    (go_keep)
                    (first
                      | (go_at_call 70; refine (rStripes_c p h n _).mono ?_; rintro e w6 ⟨rfl, h6⟩; (repeat (first | replace h6 := buN h6 | replace h6 := bu h6)); have d0 := pw_cell_below h6 d0; have HP := HP.below h6; obtain ⟨c0, c1, c2, c3, c4, c5⟩ := cells6 HP; have hB1 := bt_ hB1 h6; have hB := bt_ hB h6)
                      | fail)
                  go_wp2
                  go_ret
                  rw [hf.out]
                  exact ⟨rfl, hB⟩
                | false =>
                  have t5 : ((r.length : Int) != stripesOf p n) = false := hb
                  have hn6 : Hid ((sh.take (k + 1)).any (bad3 (stripesOf p n)) = false) := Lib.hid (by rw [HS5.out, hn5.out, hb]; rfl)
                  clear hb
                  go_wp2_with fail
                  go_region_held3 (fun w' => w'.cell? ⟨w.heap.size, 0, none⟩ = some (.int .i64 p.N) ∧ w'.cell? ⟨w.heap.size, 1, none⟩ = some (.int .i64 p.T) ∧ w'.cell? ⟨w.heap.size, 2, none⟩ = some (.int .i64 p.L) ∧ w'.cell? ⟨w.heap.size, 3, none⟩ = some (.int .i64 p.W) ∧ w'.cell? ⟨w.heap.size, 4, none⟩ = some (.int .i64 p.S) ∧ w'.cell? ⟨w.heap.size, 5, none⟩ = some (.int .i64 p.R) ∧ w'.cell? (ad.add k) = some (.slice A9 r.length c9))
                    (go_keep)
                    (first
                      | (go_at_call 70; refine (rStripes_c p h n _).mono ?_; rintro e w6 ⟨rfl, h6⟩; (repeat (first | replace h6 := buN h6 | replace h6 := bu h6)); have d0 := pw_cell_below h6 d0; have HP := HP.below h6; obtain ⟨c0, c1, c2, c3, c4, c5⟩ := cells6 HP; have hB1 := bt_ hB1 h6; have hB := bt_ hB h6)
                      | fail)
                  go_wp2
                  exact ⟨⟨k + 1, by omega, by go_num, hn6, hB1, hB⟩, by simp [intOf]; try omega⟩
              · obtain rfl : k = sh.length := by omega
                rw [List.take_length] at hn5
                have hf : Hid (chE p n who sh = 0) := Lib.hid (chE_zero hn.out hnn.out g2.out (by have := g3.out; omega) t4'.out hn5.out)
                go_wp2
                go_ret
                rw [hf.out]
                exact ⟨rfl, hB⟩
          · have t4 : ((sh.length : Int) != (who.length : Int)) = true := by rw [bne_iff_ne]; omega
            have hf : Hid (chE p n who sh = 3) := Lib.hid (chE_len hn.out hnn.out g2.out (by have := g3.out; omega) t4)
            clear g4
            go_wp2
            go_ret
            rw [hf.out]
            exact ⟨rfl, hB⟩
      · have e2 : Hid (decide ((who.map point).Nodup) = false) := Lib.hid (decide_eq_false (fun e => g2 ((nodup_points hgood.out).1 e)))
        rw [e2.out]
        have hf : Hid (chE p n who sh = 5) := Lib.hid (chE_dup hn.out hnn.out g2)
        clear g2
        go_wp2
        go_ret
        rw [hf.out]
        exact ⟨rfl, hB⟩
end Go.Proofs.Ytijeabhfddaoaaa
