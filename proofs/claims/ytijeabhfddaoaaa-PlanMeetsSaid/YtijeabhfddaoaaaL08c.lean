/- The walk of the law PlanMeets. -/
import Derived.Test.YtijeabhfddaoaaaA08
namespace Go.Proofs.Ytijeabhfddaoaaa
set_option linter.unusedVariables false
open Go.RowKit Go.Proofs.YtijeabhfddaoaaaW.PrintWords Go.Proofs.Sh

/-! ### PlanMeets -/
theorem kl_at {w : World} {A : Option Addr} {n : Nat} {l : List Bool} (h : Kd.bool.C w A n l) (j : Nat) (hj : j < n) : ∃ ad, A = some ad ∧ w.cell? (ad.add j) = some (.bool (l.getD j false)) := by
  obtain ⟨ad, e, hc⟩ := Kd.at_bool h (j : Int) (by omega) (by omega)
  rw [Int.toNat_natCast] at hc
  exact ⟨ad, e, hc⟩
set_option maxRecDepth 100000 in
set_option maxHeartbeats 6400000 in
theorem planMeets_no (p : Pl) (hi : p.In) (h : ¬ p.Ok) (v u : Value) (w : World) :
   Calls Try.prog 6 #[planV p, v, u] w fun e w' => e = .returned (.bool true) ∧ Below w.heap.size w w' := by
  have hB := below_alloc (Below.refl w.heap.size w) (.cells (planC p) 33)
  go_enter Try.func6, Try.ntmps6
  go_wp2_with fail
  refine (rRight_no p hi h _).mono ?_
  rintro e w1 ⟨rfl, h1⟩
  go_wp2_with fail
  refine (alive08 _).mono ?_
  rintro e w2 ⟨rfl, h2⟩
  go_wp2
  go_ret
  exact ⟨rfl, bt_ (bt_ hB h1) h2⟩
set_option maxRecDepth 100000 in
set_option maxHeartbeats 6400000 in
theorem planMeets_yes (p : Pl) (h : p.Ok) (v u : Value) (l m : List Bool) (w : World) (hv : Rl w v l) (hu : Rl w u m) :
   Calls Try.prog 6 #[planV p, v, u] w fun e w' => e = .returned (.bool true) ∧ Below w.heap.size w w' := by
  have HP := Blk.new w (planC p) 33
  have hB := below_alloc (Below.refl w.heap.size w) (.cells (planC p) 33)
  have hN : Hid (allOf p = (List.range p.N.toNat).map fun i => ((i + 1 : Nat) : Int)) := Lib.hid rfl
  have hlen := all_len p
  obtain ⟨n, hn⟩ : ∃ n, n = p.N.toNat := ⟨_, rfl⟩
  obtain ⟨a1, a2, a3, a4, a5, a6, a7, a8, a9⟩ := h
  have h : p.Ok := ⟨a1, a2, a3, a4, a5, a6, a7, a8, a9⟩
  have hn1 : Hid (p.N = (n : Int)) := Lib.hid (by omega)
  have hn2 : n ≤ 256 := by omega
  rw [← hn] at hlen
  rw [← hn] at hN
  have HL := Lib.hid hlen
  clear hlen hn
  go_enter Try.func6, Try.ntmps6
  go_wp2_with fail
  refine (rRight_yes p h _).mono ?_
  rintro e w1 ⟨rfl, h1⟩
  have HP := HP.below h1
  obtain ⟨c0, c1, c2, c3, c4, c5⟩ := cells6 HP
  have hB := bt_ hB h1
  clear h1
  go_wp2_with fail
  refine (all_yes p h _).mono ?_
  rintro e w2 ⟨vA, rfl, sA, h2⟩
  have HP := HP.below h2
  have hB := bt_ hB h2
  have sA := sA.rk
  clear h2 c0 c1 c2 c3 c4 c5
  obtain ⟨A, c, rfl, hc, hr⟩ := sA
  rw [HL.out] at hc hr ⊢
  obtain ⟨B, d, rfl, hd, hs⟩ := hv.below hB
  obtain ⟨C, f, rfl, hf, ht⟩ := hu.below hB
  have hml := Kd.C_max hs
  have hmm := Kd.C_max ht
  clear hv hu
  go_wp2_with fail
  go_loop [7, 8, 9, 21] (fun x y z i => ∃ k X Y Z : Nat, k ≤ n ∧ X + Y ≤ k + Z ∧ X ≤ k ∧ Y ≤ k ∧ Z ≤ k ∧ i = .int .i64 k ∧ x = .int .i64 X ∧ y = .int .i64 Y ∧ z = .int .i64 Z) (fun _ _ _ i => n - (intOf i).toNat)
  case atStart => exact ⟨0, 0, 0, 0, by omega, by omega, by omega, by omega, by omega, rfl, rfl, rfl, rfl⟩
  case round =>
    obtain ⟨k, X, Y, Z, hk, hxy, hX, hY, hZ, rfl, rfl, rfl, rfl⟩ := hrel
    by_cases hlt : k < n
    · obtain ⟨ad, rfl, c1⟩ := ki_at hr k hlt
      rw [hN.out, show ((List.range n).map fun i => ((i + 1 : Nat) : Int)).getD k 0 = ((k + 1 : Nat) : Int) from by simp [List.getD_eq_getElem?_getD, hlt], Int.natCast_add, Int.natCast_one] at c1
      by_cases g1 : k < l.length
      · obtain ⟨ad1, rfl, c2⟩ := kl_at hs k g1
        have t1 : (k : Int) + 1 ≤ (l.length : Int) := by omega
        cases ha : l.getD k false
        all_goals rw [ha] at c2
        all_goals clear ha
        · by_cases g2 : k < m.length
          · obtain ⟨ad2, rfl, c3⟩ := kl_at ht k g2
            have t2 : (k : Int) + 1 ≤ (m.length : Int) := by omega
            cases hb : m.getD k false
            all_goals rw [hb] at c3
            all_goals clear hb
            · go_wp2
              exact ⟨⟨k + 1, X, Y, Z, by omega, by omega, by omega, by omega, by omega, by go_num, by go_num, by go_num, by go_num⟩, by simp [intOf]; omega⟩
            · go_wp2
              exact ⟨⟨k + 1, X, Y + 1, Z, by omega, by omega, by omega, by omega, by omega, by go_num, by go_num, by go_num, by go_num⟩, by simp [intOf]; omega⟩
          · have t2 : decide ((k : Int) + 1 ≤ (m.length : Int)) = false := decide_eq_false (by omega)
            clear g2
            go_wp2
            exact ⟨⟨k + 1, X, Y, Z, by omega, by omega, by omega, by omega, by omega, by go_num, by go_num, by go_num, by go_num⟩, by simp [intOf]; omega⟩
        · by_cases g2 : k < m.length
          · obtain ⟨ad2, rfl, c3⟩ := kl_at ht k g2
            have t2 : (k : Int) + 1 ≤ (m.length : Int) := by omega
            cases hb : m.getD k false
            all_goals rw [hb] at c3
            all_goals clear hb
            · go_wp2
              exact ⟨⟨k + 1, X + 1, Y, Z, by omega, by omega, by omega, by omega, by omega, by go_num, by go_num, by go_num, by go_num⟩, by simp [intOf]; omega⟩
            · go_wp2
              exact ⟨⟨k + 1, X + 1, Y + 1, Z + 1, by omega, by omega, by omega, by omega, by omega, by go_num, by go_num, by go_num, by go_num⟩, by simp [intOf]; omega⟩
          · have t2 : decide ((k : Int) + 1 ≤ (m.length : Int)) = false := decide_eq_false (by omega)
            clear g2
            go_wp2
            exact ⟨⟨k + 1, X + 1, Y, Z, by omega, by omega, by omega, by omega, by omega, by go_num, by go_num, by go_num, by go_num⟩, by simp [intOf]; omega⟩
      · have t1 : decide ((k : Int) + 1 ≤ (l.length : Int)) = false := decide_eq_false (by omega)
        clear g1
        by_cases g2 : k < m.length
        · obtain ⟨ad2, rfl, c3⟩ := kl_at ht k g2
          have t2 : (k : Int) + 1 ≤ (m.length : Int) := by omega
          cases hb : m.getD k false
          all_goals rw [hb] at c3
          all_goals clear hb
          · go_wp2
            exact ⟨⟨k + 1, X, Y, Z, by omega, by omega, by omega, by omega, by omega, by go_num, by go_num, by go_num, by go_num⟩, by simp [intOf]; omega⟩
          · go_wp2
            exact ⟨⟨k + 1, X, Y + 1, Z, by omega, by omega, by omega, by omega, by omega, by go_num, by go_num, by go_num, by go_num⟩, by simp [intOf]; omega⟩
        · have t2 : decide ((k : Int) + 1 ≤ (m.length : Int)) = false := decide_eq_false (by omega)
          clear g2
          go_wp2
          exact ⟨⟨k + 1, X, Y, Z, by omega, by omega, by omega, by omega, by omega, by go_num, by go_num, by go_num, by go_num⟩, by simp [intOf]; omega⟩
    · obtain rfl : k = n := by omega
      go_wp2_with fail
      obtain ⟨c0, c1, c2, c3, c4, c5⟩ := cells6 HP
      have hB' : Below w.heap.size w w2 := hB
      go_region_held3 (fun w' => w'.cell? ⟨w.heap.size, 0, none⟩ = some (.int .i64 p.N) ∧ w'.cell? ⟨w.heap.size, 1, none⟩ = some (.int .i64 p.T) ∧ w'.cell? ⟨w.heap.size, 2, none⟩ = some (.int .i64 p.L) ∧ w'.cell? ⟨w.heap.size, 3, none⟩ = some (.int .i64 p.W) ∧ w'.cell? ⟨w.heap.size, 4, none⟩ = some (.int .i64 p.S) ∧ w'.cell? ⟨w.heap.size, 5, none⟩ = some (.int .i64 p.R))
        (go_keep)
        (first
          | (go_at_call 50; refine (all_yes p h _).mono ?_; rintro e w6 ⟨vC, rfl, sC, h6⟩; obtain ⟨A', c', rfl, hc', hr'⟩ := sC.rk; rw [HL.out]; (try replace h6 := bu h6); have HP := HP.below h6; obtain ⟨c0, c1, c2, c3, c4, c5⟩ := cells6 HP; have hB := bt_ hB h6)
          | fail)
      have d1 : ((k : Int) != p.N) = false := by simp [hn1.out]
      have d2 : 1 ≤ p.N - p.W + 1 := by omega
      by_cases g1 : (X : Int) < p.W
      · go_wp2_with fail
        refine (quorum_yes p h _).mono ?_
        rintro e w7 ⟨rfl, h7⟩
        go_wp2_with fail
        refine (alive08 _).mono ?_
        rintro e w8 ⟨rfl, h8⟩
        go_wp2
        go_ret
        exact ⟨rfl, bt_ (bt_ hB h7) h8⟩
      · by_cases g2 : (Y : Int) < p.N - p.W + 1
        · go_wp2_with fail
          refine (quorum_yes p h _).mono ?_
          rintro e w7 ⟨rfl, h7⟩
          have HP := HP.below h7
          obtain ⟨c0, c1, c2, c3, c4, c5⟩ := cells6 HP
          go_wp2_with fail
          refine (quorum_yes p h _).mono ?_
          rintro e w9 ⟨rfl, h9⟩
          go_wp2_with fail
          refine (alive08 _).mono ?_
          rintro e w8 ⟨rfl, h8⟩
          go_wp2
          go_ret
          exact ⟨rfl, bt_ (bt_ (bt_ hB h7) h9) h8⟩
        · have d3 : 0 < Z := by have := hn1.out; omega
          have g3 : decide ((Y : Int) < p.N - p.W + 1) = false := decide_eq_false g2
          go_wp2_with fail
          refine (quorum_yes p h _).mono ?_
          rintro e w7 ⟨rfl, h7⟩
          have HP := HP.below h7
          obtain ⟨c0, c1, c2, c3, c4, c5⟩ := cells6 HP
          go_wp2_with fail
          refine (quorum_yes p h _).mono ?_
          rintro e w9 ⟨rfl, h9⟩
          go_wp2_with fail
          refine (alive08 _).mono ?_
          rintro e w8 ⟨rfl, h8⟩
          go_wp2
          go_ret
          exact ⟨rfl, bt_ (bt_ (bt_ hB h7) h9) h8⟩
theorem PlanMeets_walk (w : World) (N : Int) (hN : -9223372036854775808 ≤ N ∧ N ≤ 9223372036854775807) (T : Int) (hT : -9223372036854775808 ≤ T ∧ T ≤ 9223372036854775807) (L : Int) (hL : -9223372036854775808 ≤ L ∧ L ≤ 9223372036854775807) (W : Int) (hW : -9223372036854775808 ≤ W ∧ W ≤ 9223372036854775807) (S : Int) (hS : -9223372036854775808 ≤ S ∧ S ≤ 9223372036854775807) (R : Int) (hR : -9223372036854775808 ≤ R ∧ R ≤ 9223372036854775807) (v : Value) (l : List Bool) (hv : Rl w v l) (u : Value) (m : List Bool) (hu : Rl w u m) :
   Calls Try.prog 6 #[.agg #[.int .i64 N, .int .i64 T, .int .i64 L, .int .i64 W, .int .i64 S, .int .i64 R], v, u] w fun e w' => e = .returned (.bool true) ∧ Below w.heap.size w w' := by
  by_cases h : (Pl.mk N T L W S R).Ok
  · exact planMeets_yes ⟨N, T, L, W, S, R⟩ h v u l m w hv hu
  · exact planMeets_no ⟨N, T, L, W, S, R⟩ ⟨hN, hT, hL, hW, hS, hR⟩ h v u w
end Go.Proofs.Ytijeabhfddaoaaa
