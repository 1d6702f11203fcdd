/- The walks of package blind: finding a share. -/
import Derived.Test.YtijeabhfddaoaaaBl
import Derived.Test.YtijeabhfddaoaaaSl
import Derived.Test.YtijeabhfddaoaaaLa
namespace Go.Proofs.Ytijeabhfddaoaaa
set_option linter.unusedVariables false
open Go.RowKit Go.Proofs.YtijeabhfddaoaaaW.PrintWords Go.Proofs.Sh

/-- What is wrong with custodians and their parts; 0: nothing. -/
def bad1 (p : Pl) (t : Int) (i : Int) : Bool := !decide (1 ≤ i ∧ i ≤ p.N) || decide (i = t)
def bad2 (n : Int) (r : List F) : Bool := (r.length : Int) != n
def amE (p : Pl) (n t : Int) (who : List Int) (parts : List (List F)) : Int :=
  if who.any (bad1 p t) = true then 2 else if ¬ who.Nodup then 5 else if (who.length : Int) < p.T + p.L then 6 else if parts.length ≠ who.length then 3 else if parts.any (bad2 n) = true then 3 else 0
set_option maxHeartbeats 400000 in
theorem among1_c (n : Int) (b : Nat) (u : Value) (r : List F) (w : World) (hc : w.cell? ⟨b, 0, none⟩ = some (.int .i64 n)) (hu : Rb w u r) :
   Calls Try.prog 211 #[u, .pointer (some ⟨b, 0, none⟩)] w fun e w' => e = .returned (.bool (bad2 n r)) ∧ w = w' := by
  obtain ⟨A, c, rfl, hc2, hr⟩ := hu
  have hb : Hid (bad2 n r = ((r.length : Int) != n)) := Lib.hid rfl
  go_enter Try.func211, Try.ntmps211
  go_wp2
  go_ret
  rw [hb.out]
  exact ⟨rfl, rfl⟩
theorem nodup_take_succI (l : List Int) (k : Nat) (h : k < l.length) : (l.take (k + 1)).Nodup ↔ (l.take k).Nodup ∧ l.getD k 0 ∉ l.take k := by
  rw [take_snoc' l k 0 h, List.nodup_append]
  constructor
  · rintro ⟨h1, _, h3⟩
    exact ⟨h1, fun hm => h3 _ hm _ (List.mem_singleton_self _) rfl⟩
  · rintro ⟨h1, h2⟩
    exact ⟨h1, by simp, fun a ha b hb e => h2 (by rw [← List.mem_singleton.1 hb, ← e]; exact ha)⟩
set_option maxRecDepth 100000 in
set_option maxHeartbeats 3200000 in
theorem bAmong_c (p : Pl) (h : p.Ok) (n t : Int) (v u : Value) (who : List Int) (parts : List (List F)) (w : World) (hv : Ri w v who) (hu : Rbb w u parts) :
   Calls Try.prog 189 #[planV p, .int .i64 n, .int .i64 t, v, u] w fun e w' => e = .returned (.int .i64 (amE p n t who parts)) ∧ Below w.heap.size w w' := by
  have HP := (Blk.new w (planC p) 33).alloc (.cells #[.int .i64 n] 3)
  have HS := Blk.new' (w.alloc (.cells (planC p) 33)) #[.int .i64 n] 3 (World.size_alloc _ _)
  have hB := below_alloc (below_alloc (Below.refl w.heap.size w) (.cells (planC p) 33)) (.cells #[.int .i64 n] 3)
  have hv := hv.below hB
  have hu := hu.below hB
  obtain ⟨A, c, rfl, hc, hr⟩ := hv
  obtain ⟨B, d, rfl, hd, hs⟩ := hu
  have hl := ri_len hr
  have hl2 : parts.length ≤ 9223372036854775807 := hs.2.1
  have hv : Ri _ (.slice A who.length c) who := ⟨A, c, rfl, hc, hr⟩
  have hu : Rbb _ (.slice B parts.length d) parts := ⟨B, d, rfl, hd, hs⟩
  go_enter Try.func189, Try.ntmps189
  go_wp2_with fail
  generalize (w.alloc (.cells (planC p) 33)).alloc (.cells #[.int .i64 n] 3) = w1 at *
  go_loopw [12, 17] (fun _ i wr => ∃ k : Nat, k ≤ who.length ∧ i = .int .i64 k ∧ Hid ((who.take k).any (bad1 p t) = false) ∧ Below w1.heap.size w1 wr ∧ Below w.heap.size w wr) (fun _ i _ => who.length - (intOf i).toNat)
  case atStart => exact ⟨0, by omega, rfl, Lib.hid (by simp), Below.refl _ _, hB⟩
  case round =>
    clear hB
    obtain ⟨k, hk, rfl, hn, hB1, hB⟩ := hrel
    by_cases hlt : k < who.length
    · obtain ⟨ad, rfl, d0⟩ := ki_at hr k hlt
      have d0 := pw_cell_below hB1 d0
      obtain ⟨c0, c1, c2, c3, c4, c5⟩ := cells6 (HP.below hB1)
      have hm : Hid (who.getD k 0 ∈ who) := Lib.hid (by rw [List.getD_eq_getElem?_getD, List.getElem?_eq_getElem hlt]; exact List.getElem_mem hlt)
      have HS2 := Lib.hid (any_take_succ who (bad1 p t) 0 k hlt)
      generalize who.getD k 0 = i at *
      by_cases hi : 1 ≤ i ∧ i ≤ p.N
      · have hd := Lib.hid (decide_eq_true hi)
        by_cases hit : i = t
        · have t1 : (i == t) = true := by rw [hit]; simp
          have hb : Hid (amE p n t who parts = 2) := Lib.hid (by
            unfold amE
            rw [if_pos]
            exact List.any_eq_true.2 ⟨i, hm.out, by unfold bad1; rw [decide_eq_true hit]; simp⟩)
          clear hi hit
          go_wp2_with fail
          refine (is_yes p h i _).mono ?_
          rintro e w2 ⟨rfl, h2⟩
          rw [hd.out]
          go_wp2
          go_ret
          rw [hb.out]
          exact ⟨rfl, bt_ hB h2⟩
        · have t1 : (i == t) = false := beq_eq_false_iff_ne.2 hit
          have hn2 : Hid ((who.take (k + 1)).any (bad1 p t) = false) := Lib.hid (by
            rw [HS2.out, hn.out]
            unfold bad1
            rw [hd.out, decide_eq_false hit]; rfl)
          clear hi hit
          go_wp2_with fail
          refine (is_yes p h i _).mono ?_
          rintro e w2 ⟨rfl, h2⟩
          rw [hd.out]
          go_wp2
          exact ⟨⟨k + 1, by omega, by go_num, hn2, bt_ hB1 h2, bt_ hB h2⟩, by simp [intOf]; try omega⟩
      · have hd := Lib.hid (decide_eq_false hi)
        have hb : Hid (amE p n t who parts = 2) := Lib.hid (by
          unfold amE
          rw [if_pos]
          exact List.any_eq_true.2 ⟨i, hm.out, by unfold bad1; rw [hd.out]; simp⟩)
        clear hi
        go_wp2_with fail
        refine (is_yes p h i _).mono ?_
        rintro e w2 ⟨rfl, h2⟩
        rw [hd.out]
        go_wp2
        go_ret
        rw [hb.out]
        exact ⟨rfl, bt_ hB h2⟩
    · obtain rfl : k = who.length := by omega
      rw [List.take_length] at hn
      have hv := hv.below hB1
      have hr := rk_C hv
      have hu := hu.below hB1
      have HP := HP.below hB1
      have HS := HS.below hB1
      clear hB1
      go_wp2_with fail
      go_loop [13, 14, 33] (fun _ _ i => ∃ k : Nat, k ≤ who.length ∧ i = .int .i64 k ∧ Hid ((who.take k).Nodup)) (fun _ _ i => who.length - (intOf i).toNat)
      case atStart => exact ⟨0, by omega, rfl, Lib.hid (by simp)⟩
      case round =>
        obtain ⟨k, hk, rfl, hnd⟩ := hrel
        by_cases hlt : k < who.length
        · obtain ⟨ad, rfl, c1⟩ := ki_at hr k hlt
          have hns := Lib.hid (nodup_take_succI who k hlt)
          have hkc : (k : Int) ≤ (c : Int) := by omega
          have ht : Ri wr (.slice (some ad) k c) (who.take k) := ⟨_, c, by rw [List.length_take, Nat.min_eq_left hk], by rw [List.length_take]; omega, Kd.C_take hr hk⟩
          generalize who.getD k 0 = x at *
          by_cases hm : x ∈ who.take k
          · have hf : Hid (amE p n t who parts = 5) := Lib.hid (by
              unfold amE
              rw [if_neg (by rw [hn.out]; simp), if_pos (fun h => (hns.out.1 (h.sublist (List.take_sublist _ _))).2 hm)])
            have hm := Lib.hid (decide_eq_true hm)
            go_wp2_with fail
            refine (iContains_c _ _ x _ ht).mono ?_
            rintro e w_ ⟨rfl, rfl⟩
            rw [hm.out]
            go_wp2
            go_ret
            rw [hf.out]
            exact ⟨rfl, hB⟩
          · have hf : Hid ((who.take (k + 1)).Nodup) := Lib.hid (hns.out.2 ⟨hnd.out, hm⟩)
            have hm := Lib.hid (decide_eq_false hm)
            go_wp2_with fail
            refine (iContains_c _ _ x _ ht).mono ?_
            rintro e w_ ⟨rfl, rfl⟩
            rw [hm.out]
            go_wp2
            exact ⟨⟨k + 1, by omega, by go_num, hf⟩, by simp [intOf]; try omega⟩
        · obtain rfl : k = who.length := by omega
          rw [List.take_length] at hnd
          obtain ⟨c0, c1, c2, c3, c4, c5⟩ := cells6 HP
          by_cases g3 : (who.length : Int) < p.T + p.L
          · have hf : Hid (amE p n t who parts = 6) := Lib.hid (by
              unfold amE
              rw [if_neg (by rw [hn.out]; simp), if_neg (fun h => h hnd.out), if_pos g3])
            have t3 : decide ((who.length : Int) < p.T + p.L) = true := decide_eq_true g3
            go_wp2_with fail
            refine (need_yes p h _).mono ?_
            rintro e w3 ⟨rfl, h3⟩
            go_wp2
            go_ret
            rw [hf.out]
            exact ⟨rfl, bt_ hB h3⟩
          · have t3 : decide ((who.length : Int) < p.T + p.L) = false := decide_eq_false g3
            by_cases g4 : parts.length = who.length
            · have t4 : ((parts.length : Int) != (who.length : Int)) = false := by rw [g4]; simp
              replace g4 := Lib.hid g4
              by_cases g5 : parts.any (bad2 n) = true
              · have hf : Hid (amE p n t who parts = 3) := Lib.hid (by
                  unfold amE
                  rw [if_neg (by rw [hn.out]; simp), if_neg (fun h => h hnd.out), if_neg g3, if_neg (fun e => e g4.out), if_pos g5])
                replace g5 := Lib.hid g5
                go_wp2_with fail
                refine (need_yes p h _).mono ?_
                rintro e w3 ⟨rfl, h3⟩
                have hu := hu.below h3
                have hcs := (HS.below h3).one
                go_wp2_with fail
                refine (cfRows_among _ (bad2 n) _ parts _ hu (fun u r hr9 hu9 => among1_c n _ u r _ hcs hu9)).mono ?_
                rintro e w4 ⟨rfl, rfl⟩
                rw [g5.out]
                go_wp2
                go_ret
                rw [hf.out]
                exact ⟨rfl, bt_ hB h3⟩
              · have hf : Hid (amE p n t who parts = 0) := Lib.hid (by
                  unfold amE
                  rw [if_neg (by rw [hn.out]; simp), if_neg (fun h => h hnd.out), if_neg g3, if_neg (fun e => e g4.out), if_neg g5])
                replace g5 : Hid (parts.any (bad2 n) = false) := Lib.hid (by simpa using g5)
                go_wp2_with fail
                refine (need_yes p h _).mono ?_
                rintro e w3 ⟨rfl, h3⟩
                have hu := hu.below h3
                have hcs := (HS.below h3).one
                go_wp2_with fail
                refine (cfRows_among _ (bad2 n) _ parts _ hu (fun u r hr9 hu9 => among1_c n _ u r _ hcs hu9)).mono ?_
                rintro e w4 ⟨rfl, rfl⟩
                rw [g5.out]
                go_wp2
                go_ret
                rw [hf.out]
                exact ⟨rfl, bt_ hB h3⟩
            · have hf : Hid (amE p n t who parts = 3) := Lib.hid (by
                unfold amE
                rw [if_neg (by rw [hn.out]; simp), if_neg (fun h => h hnd.out), if_neg g3, if_pos g4])
              have t4 : ((parts.length : Int) != (who.length : Int)) = true := bne_iff_ne.2 (by omega)
              go_wp2_with fail
              refine (need_yes p h _).mono ?_
              rintro e w3 ⟨rfl, h3⟩
              go_wp2
              go_ret
              rw [hf.out]
              exact ⟨rfl, bt_ hB h3⟩
/-! ### Find -/
set_option maxRecDepth 100000 in
set_option maxHeartbeats 1600000 in
theorem bFind_no (b : Nat) (p : Pl) (h : ¬ p.Ok) (n t : Int) (v u : Value) (w : World) :
   Calls Try.prog 128 #[fp b, planV p, .int .i64 n, .int .i64 t, v, u] w fun e w' => e = .returned (.tuple #[.slice none 0 0, .int .i64 1]) ∧ Below w.heap.size w w' := by
  have HP := Blk.new w (planC p) 33
  have hB := below_alloc (Below.refl w.heap.size w) (.cells (planC p) 33)
  go_enter Try.func128, Try.ntmps128
  go_wp2_with fail
  refine (bCheck_no p h n t _).mono ?_
  rintro e w1 ⟨rfl, h1⟩
  go_wp2
  go_ret2
  exact ⟨rfl, bt_ hB h1⟩
set_option maxRecDepth 100000 in
set_option maxHeartbeats 1600000 in
theorem bFind_two (b : Nat) (p : Pl) (h : p.Ok) (n t : Int) (hn : ¬ ((0 ≤ n ∧ n ≤ 240) ∧ (1 ≤ t ∧ t ≤ p.N))) (v u : Value) (w : World) :
   Calls Try.prog 128 #[fp b, planV p, .int .i64 n, .int .i64 t, v, u] w fun e w' => e = .returned (.tuple #[.slice none 0 0, .int .i64 2]) ∧ Below w.heap.size w w' := by
  replace hn := Lib.hid hn
  have HP := Blk.new w (planC p) 33
  have hB := below_alloc (Below.refl w.heap.size w) (.cells (planC p) 33)
  go_enter Try.func128, Try.ntmps128
  go_wp2_with fail
  refine (bCheck_two p h n t hn.out _).mono ?_
  rintro e w1 ⟨rfl, h1⟩
  go_wp2
  go_ret2
  exact ⟨rfl, bt_ hB h1⟩
set_option maxRecDepth 100000 in
set_option maxHeartbeats 1600000 in
theorem bFind_am (b : Nat) (p : Pl) (h : p.Ok) (n t : Int) (hn : (0 ≤ n ∧ n ≤ 240) ∧ (1 ≤ t ∧ t ≤ p.N)) (v u : Value) (who : List Int) (parts : List (List F)) (w : World) (hv : Ri w v who) (hu : Rbb w u parts) (ha : amE p n t who parts ≠ 0) :
   Calls Try.prog 128 #[fp b, planV p, .int .i64 n, .int .i64 t, v, u] w fun e w' => e = .returned (.tuple #[.slice none 0 0, .int .i64 (amE p n t who parts)]) ∧ Below w.heap.size w w' := by
  replace hn := Lib.hid hn
  have t9 : (amE p n t who parts != 0) = true := bne_iff_ne.2 ha
  have HP := Blk.new w (planC p) 33
  have hB := below_alloc (Below.refl w.heap.size w) (.cells (planC p) 33)
  have hv := hv.below hB
  have hu := hu.below hB
  go_enter Try.func128, Try.ntmps128
  go_wp2_with fail
  refine (bCheck_ok p h n t hn.out _).mono ?_
  rintro e w1 ⟨rfl, h1⟩
  have HP := HP.below h1
  have hB := bt_ hB h1
  obtain ⟨c0, c1, c2, c3, c4, c5⟩ := cells6 HP
  have hv := hv.below h1
  have hu := hu.below h1
  go_wp2_with fail
  refine (bAmong_c p h n t _ _ who parts _ hv hu).mono ?_
  rintro e w2 ⟨rfl, h2⟩
  go_wp2
  go_ret2
  exact ⟨rfl, bt_ hB h2⟩
theorem am_zero {p : Pl} {n t : Int} {who : List Int} {parts : List (List F)} (h : amE p n t who parts = 0) : (∀ i ∈ who, (1 ≤ i ∧ i ≤ p.N) ∧ i ≠ t) ∧ who.Nodup ∧ p.T + p.L ≤ who.length ∧ parts.length = who.length ∧ ∀ r ∈ parts, (r.length : Int) = n := by
  unfold amE at h
  by_cases h1 : who.any (bad1 p t) = true
  · rw [if_pos h1] at h; exact absurd h (by decide)
  rw [if_neg h1] at h
  by_cases h2 : who.Nodup
  · rw [if_neg (fun e => e h2)] at h
    by_cases h3 : (who.length : Int) < p.T + p.L
    · rw [if_pos h3] at h; exact absurd h (by decide)
    rw [if_neg h3] at h
    by_cases h4 : parts.length = who.length
    · rw [if_neg (fun e => e h4)] at h
      by_cases h5 : parts.any (bad2 n) = true
      · rw [if_pos h5] at h; exact absurd h (by decide)
      refine ⟨fun i hi => ?_, h2, by omega, h4, fun r hr => ?_⟩
      · have h6 : bad1 p t i = false := by
          cases hb : bad1 p t i with
          | false => rfl
          | true => exact (h1 (List.any_eq_true.2 ⟨i, hi, hb⟩)).elim
        unfold bad1 at h6
        simp only [Bool.or_eq_false_iff, Bool.not_eq_false', decide_eq_true_eq, decide_eq_false_iff_not] at h6
        exact h6
      · have h6 : bad2 n r = false := by
          cases hb : bad2 n r with
          | false => rfl
          | true => exact (h5 (List.any_eq_true.2 ⟨r, hr, hb⟩)).elim
        unfold bad2 at h6
        simpa using h6
    · rw [if_pos h4] at h; exact absurd h (by decide)
  · rw [if_pos h2] at h; exact absurd h (by decide)
theorem point_inj {i j : Int} (hi : 1 ≤ i ∧ i ≤ 256) (hj : 1 ≤ j ∧ j ≤ 256) (h : point i = point j) : i = j := by
  unfold point at h
  rw [if_pos hi, if_pos hj] at h
  have := F_of_inj (by omega) (by omega) h
  omega
theorem nodup_points {l : List Int} (h : ∀ i ∈ l, 1 ≤ i ∧ i ≤ 256) : (l.map point).Nodup ↔ l.Nodup := by
  rw [List.nodup_iff_pairwise_ne, List.nodup_iff_pairwise_ne, List.pairwise_map]
  constructor
  · exact fun h => h.imp fun h e => h (by rw [e])
  · intro h2
    refine h2.imp_of_mem ?_
    intro a b ha hb hne e
    exact hne (point_inj (h a ha) (h b hb) e)
set_option maxRecDepth 100000 in
set_option maxHeartbeats 3200000 in
theorem bFind_ok (b : Nat) (p : Pl) (h : p.Ok) (n : Nat) (t : Int) (hn2 : (n : Int) ≤ 240) (hn3 : 1 ≤ t ∧ t ≤ p.N) (K : Nat) (eK : p.T + p.L = K) (hK : K < 255) (v u : Value) (who : List Int) (parts : List (List F)) (w : World) (hF : IsField w b) (hv : Ri w v who) (hu : Rbb w u parts) (ha : amE p n t who parts = 0) :
   Calls Try.prog 128 #[fp b, planV p, .int .i64 n, .int .i64 t, v, u] w fun e w' => ∃ z, e = .returned (.tuple #[z, .int .i64 0]) ∧ Ob w w' z (F.findOf ((who.take K).map point) (point t) (parts.take K) n) ∧ Below w.heap.size w w' := by
  have hn : Hid ((0 ≤ (n : Int) ∧ (n : Int) ≤ 240) ∧ (1 ≤ t ∧ t ≤ p.N)) := Lib.hid ⟨⟨by omega, hn2⟩, hn3⟩
  have hz := Lib.hid (am_zero ha)
  have hK2 : K ≤ who.length := by have := hz.out.2.2.1; omega
  have hK3 : K ≤ parts.length := by have := hz.out.2.2.2.1; omega
  have hNd : Hid (((who.take K).map point).Nodup) := Lib.hid ((nodup_points (fun i hi => by
    have := (hz.out.1 i (List.mem_of_mem_take hi)).1
    have := h.nl; have := h.l
    omega)).2 (hz.out.2.1.sublist (List.take_sublist _ _)))
  have hxl : Hid (((who.take K).map point).length = K) := Lib.hid (by rw [List.length_map, List.length_take]; omega)
  replace ha := Lib.hid ha
  replace eK := Lib.hid eK
  clear hn3
  have HP := Blk.new w (planC p) 33
  have hB := below_alloc (Below.refl w.heap.size w) (.cells (planC p) 33)
  have hv := hv.below hB
  have hu := hu.below hB
  go_enter Try.func128, Try.ntmps128
  go_wp2_with fail
  refine (bCheck_ok p h n t hn.out _).mono ?_
  rintro e w1 ⟨rfl, h1⟩
  have HP := HP.below h1
  have hB := bt_ hB h1
  obtain ⟨c0, c1, c2, c3, c4, c5⟩ := cells6 HP
  have hv := hv.below h1
  have hu := hu.below h1
  go_wp2_with fail
  refine (bAmong_c p h n t _ _ who parts _ hv hu).mono ?_
  rintro e w2 ⟨rfl, h2⟩
  rw [ha.out]
  have HP := HP.below h2
  have hB := bt_ hB h2
  obtain ⟨c0, c1, c2, c3, c4, c5⟩ := cells6 HP
  have hv := hv.below h2
  have hu := hu.below h2
  go_wp2_with fail
  refine (need_yes p h _).mono ?_
  rintro e w3 ⟨rfl, h3⟩
  rw [eK.out]
  have hB := bt_ hB h3
  have hv := hv.below h3
  have hu := hu.below h3
  have hF := hF.below hB
  clear h1 h2 h3 HP c0 c1 c2 c3 c4 c5
  obtain ⟨A, c, rfl, hc, hr⟩ := hv
  have hl := ri_len hr
  have hkc : (K : Int) ≤ (c : Int) := by omega
  have hk0 : (0 : Int) ≤ (K : Int) := by omega
  have hw' : Ri w3 (.slice A K c) (who.take K) := ⟨A, c, by rw [List.length_take, Nat.min_eq_left hK2], by rw [List.length_take]; omega, Kd.C_take hr hK2⟩
  have hwl : Hid ((who.take K).length < 1000000) := Lib.hid (by rw [List.length_take]; omega)
  go_wp2_with fail
  refine (points_c _ _ _ hw' hwl.out).mono ?_
  rintro e w4 ⟨vP, rfl, sP, h4⟩
  replace sP := sP.rk
  have hB := bt_ hB h4
  have hu := hu.below h4
  have hF := hF.below h4
  clear h4
  go_wp2_with fail
  refine (point_c t _).mono ?_
  rintro e w_ ⟨rfl, rfl⟩
  generalize hxs : (who.take K).map point = xs at *
  generalize hx : point t = x at *
  go_wp2_with fail
  refine (weights_yes _ _ xs x _ hF sP hNd.out (by rw [hxl.out]; exact hK)).mono ?_
  rintro e w5 ⟨vW, rfl, sW, h5⟩
  replace sW := sW.rk
  have hB := bt_ hB h5
  have hu := hu.below h5
  have hF := hF.below h5
  have hwl2 : Hid ((F.wts xs x).length = K) := Lib.hid (by rw [F.wts_len]; exact hxl.out)
  obtain ⟨AW, cW, rfl⟩ := rk_form sW
  rw [hwl2.out] at sW ⊢
  clear h5 sP hNd
  have hcl : Hid (∀ j, (F.colOf (parts.take K) j).length = K) := Lib.hid (fun j => by rw [F.colOf_len, List.length_take]; omega)
  obtain ⟨B, d, rfl⟩ := rk_form hu
  go_wp2_with ((with_reducible refine gate_dst (N := 54) rfl ?_); refine mk_cap kb rfl 40 5 _ _ rfl .i64 _ rfl rfl Try.underlying40 (.int .u8 0) 1 infoB (by decide) ?h0 ?hl (Below.refl _ _) ?_; (case h0 => omega); (case hl => omega); intro v1 w1 ho hb hg; skip)
  have hO := ho
  have hb0 := hb
  clear ho hb hg
  go_loopw [19, 20, 21, 22, 23, 56] (fun s _ _ _ _ i wr => ∃ k : Nat, k ≤ n ∧ i = .int .i64 k ∧ Ob w5 wr s ((List.range k).map fun j => dot (F.wts xs x) (F.colOf (parts.take K) j)) ∧ Below w5.heap.size w5 wr) (fun _ _ _ _ _ i _ => n - (intOf i).toNat)
  case atStart => exact ⟨0, by omega, rfl, hO, hb0⟩
  case round =>
    clear hO hb0
    obtain ⟨k, hk, rfl, hO, hb⟩ := hrel
    by_cases hlt : k < n
    · have HS := Lib.hid (range_snoc (fun j => dot (F.wts xs x) (F.colOf (parts.take K) j)) k)
      go_wp2_with fail
      go_loopw [21, 22, 23, 61] (fun s _ _ i wr2 => ∃ (q : Nat) (y : F), q ≤ K ∧ i = .int .i64 q ∧ s = .int .u8 (y.n : Int) ∧ Hid (y = dot ((F.wts xs x).take q) ((F.colOf (parts.take K) k).take q)) ∧ Drawn0 wr wr2) (fun _ _ _ i _ => K - (intOf i).toNat)
      case atStart => exact ⟨0, 0, by omega, rfl, rfl, Lib.hid (by simp [dot]), Drawn0.refl _⟩
      case round =>
        obtain ⟨q, y, hq, rfl, rfl, hy, hD⟩ := hrel
        by_cases hlt2 : q < K
        · have hbq := bt_ hb hD.below
          obtain ⟨ad, rfl, d0⟩ := kb_at (rk_C sW) q (by rw [hwl2.out]; exact hlt2)
          have d0 := pw_cell_below hbq d0
          obtain ⟨ad2, u2, rfl, d1, hu2⟩ := kbb_at (rk_C hu) q (by omega)
          have d1 := pw_cell_below hbq d1
          have hu2 := hu2.below hbq
          have hrl : ((parts.getD q []).length : Int) = n := hz.out.2.2.2.2 _ (by rw [List.getD_eq_getElem?_getD, List.getElem?_eq_getElem (by omega : q < parts.length)]; exact List.getElem_mem _)
          have hcol : Hid ((F.colOf (parts.take K) k).getD q 0 = (parts.getD q []).getD k 0) := Lib.hid (by
            rw [F.colOf_at _ _ _ (by rw [List.length_take]; omega)]
            congr 1
            simp [List.getD_eq_getElem?_getD, List.getElem?_take_of_lt hlt2])
          have hst := dot_take (F.wts xs x) (F.colOf (parts.take K) k) q (by rw [hwl2.out]; exact hlt2) (by rw [hcl.out]; exact hlt2)
          rw [hcol.out] at hst
          obtain ⟨A9, c9, rfl⟩ := rk_form hu2
          obtain ⟨ad3, rfl, d2⟩ := kb_at (rk_C hu2) k (by omega)
          have hi2 : (q : Int) < (parts.length : Int) := by omega
          have hi3 : (k : Int) < ((parts.getD q []).length : Int) := by omega
          have hF2 := hF.below hbq
          generalize (F.wts xs x).getD q 0 = a at *
          generalize (parts.getD q []).getD k 0 = z at *
          generalize parts.getD q [] = r at *
          replace hrl := Lib.hid hrl
          have hy2 : Hid (y + a * z = dot ((F.wts xs x).take (q + 1)) ((F.colOf (parts.take K) k).take (q + 1))) := Lib.hid (by rw [hst, hy.out])
          clear hst
          go_wp2_with fail
          refine (mul_c b a z _ hF2 _ _ rfl rfl).mono ?_
          rintro e w7 ⟨rfl, h7⟩
          go_wp2_with fail
          refine (add_c y (a * z) _ _ _ rfl rfl).mono ?_
          rintro e w_ ⟨rfl, rfl⟩
          go_wp2
          exact ⟨⟨q + 1, y + a * z, by omega, by go_num, rfl, hy2, ⟨by obtain ⟨n1, e1⟩ := hD.out; obtain ⟨n2, e2⟩ := h7.out; exact ⟨n1 + n2, by rw [e2, e1, World.drewN_drewN]⟩⟩⟩, by simp [intOf]; try omega⟩
        · obtain rfl : q = K := by omega
          have hy2 := hy.out
          rw [List.take_of_length_le (by rw [hwl2.out]; omega), List.take_of_length_le (by rw [hcl.out]; omega)] at hy2
          replace hy2 := Lib.hid hy2
          clear hy
          have hO := hO.drawn hD
          have hb := bd hb hD
          rw [← hy2.out] at HS
          go_wp2_with (at_builtin; refine app_one (enc := bV) rfl (.tmp 79) (.tmp 81) 40 5 (.int .u8 0) 1 rfl Try.underlying40 infoB rfl (by decide) _ _ y rfl rfl _ (bV_eq ?hc) hO hb ?hl ?_; (case hc => (first | exact rfl | exact rfl)); (case hl => (first | (simp; omega) | omega)); intro v1 w1 ho hb hg)
          exact ⟨⟨k + 1, by omega, by go_num, by rw [HS.out]; exact ho, hb⟩, by simp [intOf]; try omega⟩
    · obtain rfl : k = n := by omega
      go_wp2
      go_ret2
      exact ⟨_, rfl, by rw [hxs, hx]; exact hO.lower hB, bt_ hB hb⟩
end Go.Proofs.Ytijeabhfddaoaaa
