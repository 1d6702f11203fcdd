/- Several texts of this seat, one behind the other. -/
import Derived.Test.YtijeabhfddaoaaaPlan2
/- The walks of the reference of layer 8. -/
namespace Go.Proofs.Ytijeabhfddaoaaa
set_option linter.unusedVariables false
open Go.RowKit Go.Proofs.YtijeabhfddaoaaaW.PrintWords Go.Proofs.Sh

set_option maxRecDepth 100000 in
set_option maxHeartbeats 1600000 in
theorem rRight_yes (p : Pl) (h : p.Ok) (w : World) :
   Calls Try.prog 48 #[planV p] w fun e w' => e = .returned (.bool true) ∧ Below w.heap.size w w' := by
  obtain ⟨a1, a2, a3, a4, a5, a6, a7, a8, a9⟩ := h
  have t0 : decide (p.T < 1) = false := decide_eq_false (by omega)
  have t1 : decide (p.L < 1) = false := decide_eq_false (by omega)
  have t2 : decide (256 < p.N) = false := decide_eq_false (by omega)
  have t3 : decide (p.N < p.W) = false := decide_eq_false (by omega)
  have t4 : decide (256 < p.T) = false := decide_eq_false (by omega)
  have t5 : decide (256 < p.L) = false := decide_eq_false (by omega)
  have t6 : decide (p.T + p.L ≤ p.W) = true := decide_eq_true (by omega)
  have t7 : decide (p.N + p.L ≤ 256) = true := decide_eq_true (by omega)
  have t8 : decide (1 ≤ p.S) = true := decide_eq_true (by omega)
  have t9 : decide (p.S ≤ 256) = true := decide_eq_true (by omega)
  have t10 : decide (1 ≤ p.R) = true := decide_eq_true (by omega)
  have t11 : decide (p.R ≤ 64) = true := decide_eq_true (by omega)
  go_enter Try.func48, Try.ntmps48
  go_wp2
  go_ret
  exact ⟨rfl, below_alloc (Below.refl _ _) _⟩
set_option maxRecDepth 100000 in
set_option maxHeartbeats 6400000 in
theorem rRight_no (p : Pl) (hi : p.In) (h : ¬ p.Ok) (w : World) :
   Calls Try.prog 48 #[planV p] w fun e w' => e = .returned (.bool false) ∧ Below w.heap.size w w' := by
  rw [Pl.ok_iff] at h
  have H := Lib.hid h
  clear h
  obtain ⟨b1, b2⟩ := hi.n
  clear hi
  by_cases h0 : p.T < 1
  · have t0 : decide (p.T < 1) = true := decide_eq_true h0
    go_enter Try.func48, Try.ntmps48
    go_wp2
    go_ret
    exact ⟨rfl, below_alloc (Below.refl _ _) _⟩
  · skip
    by_cases h1 : p.L < 1
    · have t0 : decide (p.T < 1) = false := decide_eq_false h0
      have t1 : decide (p.L < 1) = true := decide_eq_true h1
      go_enter Try.func48, Try.ntmps48
      go_wp2
      go_ret
      exact ⟨rfl, below_alloc (Below.refl _ _) _⟩
    · skip
      by_cases h2 : 256 < p.N
      · have t0 : decide (p.T < 1) = false := decide_eq_false h0
        have t1 : decide (p.L < 1) = false := decide_eq_false h1
        have t2 : decide (256 < p.N) = true := decide_eq_true h2
        go_enter Try.func48, Try.ntmps48
        go_wp2
        go_ret
        exact ⟨rfl, below_alloc (Below.refl _ _) _⟩
      · skip
        by_cases h3 : p.N < p.W
        · have t0 : decide (p.T < 1) = false := decide_eq_false h0
          have t1 : decide (p.L < 1) = false := decide_eq_false h1
          have t2 : decide (256 < p.N) = false := decide_eq_false h2
          have t3 : decide (p.N < p.W) = true := decide_eq_true h3
          go_enter Try.func48, Try.ntmps48
          go_wp2
          go_ret
          exact ⟨rfl, below_alloc (Below.refl _ _) _⟩
        · skip
          by_cases h4 : 256 < p.T
          · have t0 : decide (p.T < 1) = false := decide_eq_false h0
            have t1 : decide (p.L < 1) = false := decide_eq_false h1
            have t2 : decide (256 < p.N) = false := decide_eq_false h2
            have t3 : decide (p.N < p.W) = false := decide_eq_false h3
            have t4 : decide (256 < p.T) = true := decide_eq_true h4
            go_enter Try.func48, Try.ntmps48
            go_wp2
            go_ret
            exact ⟨rfl, below_alloc (Below.refl _ _) _⟩
          · skip
            by_cases h5 : 256 < p.L
            · have t0 : decide (p.T < 1) = false := decide_eq_false h0
              have t1 : decide (p.L < 1) = false := decide_eq_false h1
              have t2 : decide (256 < p.N) = false := decide_eq_false h2
              have t3 : decide (p.N < p.W) = false := decide_eq_false h3
              have t4 : decide (256 < p.T) = false := decide_eq_false h4
              have t5 : decide (256 < p.L) = true := decide_eq_true h5
              go_enter Try.func48, Try.ntmps48
              go_wp2
              go_ret
              exact ⟨rfl, below_alloc (Below.refl _ _) _⟩
            · skip
              by_cases h6 : p.T + p.L ≤ p.W
              · skip
                by_cases h7 : p.N + p.L ≤ 256
                · skip
                  by_cases h8 : 1 ≤ p.S
                  · skip
                    by_cases h9 : p.S ≤ 256
                    · skip
                      by_cases h10 : 1 ≤ p.R
                      · skip
                        by_cases h11 : p.R ≤ 64
                        · skip
                          exact absurd ⟨by omega, by omega, by omega, by omega, by omega, by omega, by omega, by omega, by omega⟩ H.out
                        · have t0 : decide (p.T < 1) = false := decide_eq_false h0
                          have t1 : decide (p.L < 1) = false := decide_eq_false h1
                          have t2 : decide (256 < p.N) = false := decide_eq_false h2
                          have t3 : decide (p.N < p.W) = false := decide_eq_false h3
                          have t4 : decide (256 < p.T) = false := decide_eq_false h4
                          have t5 : decide (256 < p.L) = false := decide_eq_false h5
                          have t6 : decide (p.T + p.L ≤ p.W) = true := decide_eq_true h6
                          have t7 : decide (p.N + p.L ≤ 256) = true := decide_eq_true h7
                          have t8 : decide (1 ≤ p.S) = true := decide_eq_true h8
                          have t9 : decide (p.S ≤ 256) = true := decide_eq_true h9
                          have t10 : decide (1 ≤ p.R) = true := decide_eq_true h10
                          have t11 : decide (p.R ≤ 64) = false := decide_eq_false h11
                          go_enter Try.func48, Try.ntmps48
                          go_wp2
                          go_ret
                          exact ⟨rfl, below_alloc (Below.refl _ _) _⟩
                      · have t0 : decide (p.T < 1) = false := decide_eq_false h0
                        have t1 : decide (p.L < 1) = false := decide_eq_false h1
                        have t2 : decide (256 < p.N) = false := decide_eq_false h2
                        have t3 : decide (p.N < p.W) = false := decide_eq_false h3
                        have t4 : decide (256 < p.T) = false := decide_eq_false h4
                        have t5 : decide (256 < p.L) = false := decide_eq_false h5
                        have t6 : decide (p.T + p.L ≤ p.W) = true := decide_eq_true h6
                        have t7 : decide (p.N + p.L ≤ 256) = true := decide_eq_true h7
                        have t8 : decide (1 ≤ p.S) = true := decide_eq_true h8
                        have t9 : decide (p.S ≤ 256) = true := decide_eq_true h9
                        have t10 : decide (1 ≤ p.R) = false := decide_eq_false h10
                        go_enter Try.func48, Try.ntmps48
                        go_wp2
                        go_ret
                        exact ⟨rfl, below_alloc (Below.refl _ _) _⟩
                    · have t0 : decide (p.T < 1) = false := decide_eq_false h0
                      have t1 : decide (p.L < 1) = false := decide_eq_false h1
                      have t2 : decide (256 < p.N) = false := decide_eq_false h2
                      have t3 : decide (p.N < p.W) = false := decide_eq_false h3
                      have t4 : decide (256 < p.T) = false := decide_eq_false h4
                      have t5 : decide (256 < p.L) = false := decide_eq_false h5
                      have t6 : decide (p.T + p.L ≤ p.W) = true := decide_eq_true h6
                      have t7 : decide (p.N + p.L ≤ 256) = true := decide_eq_true h7
                      have t8 : decide (1 ≤ p.S) = true := decide_eq_true h8
                      have t9 : decide (p.S ≤ 256) = false := decide_eq_false h9
                      go_enter Try.func48, Try.ntmps48
                      go_wp2
                      go_ret
                      exact ⟨rfl, below_alloc (Below.refl _ _) _⟩
                  · have t0 : decide (p.T < 1) = false := decide_eq_false h0
                    have t1 : decide (p.L < 1) = false := decide_eq_false h1
                    have t2 : decide (256 < p.N) = false := decide_eq_false h2
                    have t3 : decide (p.N < p.W) = false := decide_eq_false h3
                    have t4 : decide (256 < p.T) = false := decide_eq_false h4
                    have t5 : decide (256 < p.L) = false := decide_eq_false h5
                    have t6 : decide (p.T + p.L ≤ p.W) = true := decide_eq_true h6
                    have t7 : decide (p.N + p.L ≤ 256) = true := decide_eq_true h7
                    have t8 : decide (1 ≤ p.S) = false := decide_eq_false h8
                    go_enter Try.func48, Try.ntmps48
                    go_wp2
                    go_ret
                    exact ⟨rfl, below_alloc (Below.refl _ _) _⟩
                · have t0 : decide (p.T < 1) = false := decide_eq_false h0
                  have t1 : decide (p.L < 1) = false := decide_eq_false h1
                  have t2 : decide (256 < p.N) = false := decide_eq_false h2
                  have t3 : decide (p.N < p.W) = false := decide_eq_false h3
                  have t4 : decide (256 < p.T) = false := decide_eq_false h4
                  have t5 : decide (256 < p.L) = false := decide_eq_false h5
                  have t6 : decide (p.T + p.L ≤ p.W) = true := decide_eq_true h6
                  have t7 : decide (p.N + p.L ≤ 256) = false := decide_eq_false h7
                  go_enter Try.func48, Try.ntmps48
                  go_wp2
                  go_ret
                  exact ⟨rfl, below_alloc (Below.refl _ _) _⟩
              · have t0 : decide (p.T < 1) = false := decide_eq_false h0
                have t1 : decide (p.L < 1) = false := decide_eq_false h1
                have t2 : decide (256 < p.N) = false := decide_eq_false h2
                have t3 : decide (p.N < p.W) = false := decide_eq_false h3
                have t4 : decide (256 < p.T) = false := decide_eq_false h4
                have t5 : decide (256 < p.L) = false := decide_eq_false h5
                have t6 : decide (p.T + p.L ≤ p.W) = false := decide_eq_false h6
                go_enter Try.func48, Try.ntmps48
                go_wp2
                go_ret
                exact ⟨rfl, below_alloc (Below.refl _ _) _⟩
end Go.Proofs.Ytijeabhfddaoaaa

/- The walks of the reference of layer 8, the rest; whether bytes are unlike. -/
namespace Go.Proofs.Ytijeabhfddaoaaa
set_option linter.unusedVariables false
open Go.RowKit Go.Proofs.YtijeabhfddaoaaaW.PrintWords Go.Proofs.Sh

set_option maxHeartbeats 400000 in
theorem rPoint_c (i : Int) (w : World) :
   Calls Try.prog 59 #[.int .i64 i] w fun e w' => e = .returned (.int .u8 ((point i).n : Int)) ∧ w = w' := by
  by_cases h1 : i < 1
  · have hp : Hid (((point i).n : Int) = 0) := Lib.hid (by unfold point; rw [if_neg (by omega)]; rfl)
    have t1 : decide (i < 1) = true := decide_eq_true h1
    go_enter Try.func59, Try.ntmps59
    go_wp2
    go_ret
    rw [hp.out]
    exact ⟨rfl, rfl⟩
  by_cases h2 : 256 < i
  · have hp : Hid (((point i).n : Int) = 0) := Lib.hid (by unfold point; rw [if_neg (by omega)]; rfl)
    have t1 : decide (i < 1) = false := decide_eq_false h1
    have t2 : decide (256 < i) = true := decide_eq_true h2
    clear h1
    go_enter Try.func59, Try.ntmps59
    go_wp2
    go_ret
    rw [hp.out]
    exact ⟨rfl, rfl⟩
  · have hp : Hid (((point i).n : Int) = i - 1) := Lib.hid (by unfold point; rw [if_pos (by omega), F.n_of (by omega)]; omega)
    have t1 : decide (i < 1) = false := decide_eq_false h1
    have t2 : decide (256 < i) = false := decide_eq_false h2
    have b1 : 1 ≤ i := by omega
    have b2 : i ≤ 256 := by omega
    clear h1 h2
    go_enter Try.func59, Try.ntmps59
    go_wp2
    go_ret
    rw [hp.out]
    exact ⟨rfl, rfl⟩
set_option maxRecDepth 100000 in
set_option maxHeartbeats 1600000 in
theorem rPoints_c (v : Value) (l : List Int) (w : World) (hv : Ri w v l) (hl : l.length < 1000000) :
   Calls Try.prog 61 #[v] w fun e w' => ∃ v, e = .returned v ∧ (Ob w w' v (l.map point) ∧ Below w.heap.size w w') := by
  obtain ⟨A, c, rfl, hc, hr⟩ := hv
  go_enter Try.func61, Try.ntmps61
  go_wp2
  go_loopw [3, 4] (fun v i wr => ∃ k : Nat, k ≤ l.length ∧ i = .int .i64 k ∧ Ob w wr v ((l.take k).map point) ∧ Below w.heap.size w wr) (fun _ i _ => l.length - (intOf i).toNat)
  case atStart => exact ⟨0, by omega, rfl, Own.nil _ _ _ _, Below.refl _ _⟩
  case round =>
    obtain ⟨k, hk, rfl, hO, hB⟩ := hrel
    by_cases hlt : k < l.length
    · have HS := Lib.hid (congrArg (List.map point) (take_snoc l k 0 hlt))
      obtain ⟨ad, rfl, c1⟩ := ki_at (Kd.C_below hr hB) k hlt
      generalize l.getD k 0 = x at *
      go_wp2_with fail
      refine (rPoint_c x _).mono ?_
      rintro e w_ ⟨rfl, rfl⟩
      go_wp2_with (at_builtin; refine app_one (enc := bV) rfl (.tmp 11) (.tmp 17) 40 5 (.int .u8 0) 1 rfl Try.underlying40 infoB rfl (by decide) _ _ (point x) rfl rfl _ (bV_eq ?hc) hO hB ?hl ?_; (case hc => (first | exact rfl | exact rfl)); (case hl => (first | (simp; omega) | omega)); intro v1 w1 ho hb hg)
      exact ⟨⟨k + 1, by omega, by go_num, by rw [HS.out, List.map_append]; exact ho, hb⟩, by simp [intOf]; omega⟩
    · obtain rfl : k = l.length := by omega
      rw [List.take_length] at hO
      go_wp2
      go_ret
      exact ⟨_, rfl, hO, hB⟩
set_option maxRecDepth 100000 in
set_option maxHeartbeats 1600000 in
theorem rSecrets_c (p : Pl) (h : p.Ok) (w : World) :
   Calls Try.prog 66 #[planV p] w fun e w' => ∃ v, e = .returned v ∧ (Ob w w' v (secretsAt p) ∧ Below w.heap.size w w') := by
  have HP := Blk.new w (planC p) 33
  have hA : Hid (secretsAt p = (List.range p.L.toNat).map fun i => F.of (p.N.toNat + i)) := Lib.hid rfl
  obtain ⟨a1, a2, a3, a4, a5, a6, a7, a8, a9⟩ := h
  go_enter Try.func66, Try.ntmps66
  go_wp2
  obtain ⟨w1, hw1⟩ : ∃ w1, w1 = w.alloc (.cells (planC p) 33) := ⟨_, rfl⟩
  have hb1 : Below w.heap.size w w1 := by rw [hw1]; exact below_alloc (Below.refl _ _) _
  rw [← hw1] at HP ⊢
  clear hw1
  go_loopw [3, 4] (fun v i wr => ∃ k : Nat, (k : Int) ≤ p.L ∧ i = .int .i64 (p.N + k) ∧ Ob w wr v ((List.range k).map fun i => F.of (p.N.toNat + i)) ∧ Below w.heap.size w wr ∧ Blk wr w.heap.size (planC p) 33) (fun _ i _ => (p.N + p.L - intOf i).toNat)
  case atStart => exact ⟨0, by omega, by simp, Own.nil _ _ _ _, hb1, HP⟩
  case round =>
    clear HP hb1
    obtain ⟨k, hk, rfl, hO, hB, HP⟩ := hrel
    have c0 := (isPlan_blk HP).n
    have c2 := (isPlan_blk HP).l
    by_cases hlt : (k : Int) < p.L
    · have HS := Lib.hid (range_snoc (fun i => F.of (p.N.toNat + i)) k)
      go_wp2_with (at_builtin; refine app_one (enc := bV) rfl (.tmp 16) (.tmp 19) 40 5 (.int .u8 0) 1 rfl Try.underlying40 infoB rfl (by decide) _ _ (F.of (p.N.toNat + k)) rfl rfl _ (bV_eq ?hc) hO hB ?hl ?_; (case hc => (first | exact rfl | exact (by rw [F.n_of (by omega)]; omega))); (case hl => (first | (simp; omega) | omega)); intro v1 w1 ho hb hg)
      exact ⟨⟨k + 1, by omega, by simp; omega, by rw [HS.out]; exact ho, hb, HP.grown hO (by decide) hg⟩, by simp [intOf]; omega⟩
    · have hk' : p.L.toNat = k := by omega
      have t1 : decide (p.N + k < p.N + p.L) = false := decide_eq_false (by omega)
      rw [hk'] at hA
      clear hk'
      go_wp2
      go_ret
      exact ⟨_, rfl, by rw [hA.out]; exact hO, hB⟩
set_option maxRecDepth 100000 in
set_option maxHeartbeats 1600000 in
theorem rAll_c (p : Pl) (h : p.Ok) (w : World) :
   Calls Try.prog 68 #[planV p] w fun e w' => ∃ v, e = .returned v ∧ (Oi w w' v (allOf p) ∧ Below w.heap.size w w') := by
  have HP := Blk.new w (planC p) 33
  have hA : Hid (allOf p = (List.range p.N.toNat).map fun i => ((i + 1 : Nat) : Int)) := Lib.hid rfl
  obtain ⟨a1, a2, a3, a4, a5, a6, a7, a8, a9⟩ := h
  go_enter Try.func68, Try.ntmps68
  go_wp2
  obtain ⟨w1, hw1⟩ : ∃ w1, w1 = w.alloc (.cells (planC p) 33) := ⟨_, rfl⟩
  have hb1 : Below w.heap.size w w1 := by rw [hw1]; exact below_alloc (Below.refl _ _) _
  rw [← hw1] at HP ⊢
  clear hw1
  go_loopw [3, 4] (fun v i wr => ∃ k : Nat, (k : Int) ≤ p.N ∧ i = .int .i64 (k + 1) ∧ Oi w wr v ((List.range k).map fun i => ((i + 1 : Nat) : Int)) ∧ Below w.heap.size w wr ∧ Blk wr w.heap.size (planC p) 33) (fun _ i _ => (p.N + 1 - intOf i).toNat)
  case atStart => exact ⟨0, by omega, by simp, Own.nil _ _ _ _, hb1, HP⟩
  case round =>
    clear HP hb1
    obtain ⟨k, hk, rfl, hO, hB, HP⟩ := hrel
    have c0 := (isPlan_blk HP).n
    by_cases hlt : (k : Int) < p.N
    · have HS := Lib.hid (range_snoc (fun i => ((i + 1 : Nat) : Int)) k)
      have t1 : (k : Int) + 1 ≤ p.N := by omega
      go_wp2_with (at_builtin; refine app_one (enc := Value.int .i64) rfl (.tmp 11) (.tmp 13) 36 3 (.int .i64 0) 8 rfl Try.underlying36 infoI rfl (by decide) _ _ ((k + 1 : Nat) : Int) rfl rfl _ (iV_eq ?hc) hO hB ?hl ?_; (case hc => (first | rfl | omega | (simp; done) | (simp; omega))); (case hl => (first | (simp; omega) | omega)); intro v1 w1 ho hb hg)
      exact ⟨⟨k + 1, by omega, by simp, by rw [HS.out]; exact ho, hb, HP.grown hO (by decide) hg⟩, by simp [intOf]; omega⟩
    · have hk' : p.N.toNat = k := by omega
      have t1 : decide ((k : Int) + 1 ≤ p.N) = false := decide_eq_false (by omega)
      rw [hk'] at hA
      clear hk'
      go_wp2
      go_ret
      exact ⟨_, rfl, by rw [hA.out]; exact hO, hB⟩
set_option maxRecDepth 100000 in
set_option maxHeartbeats 1600000 in
theorem rIs_c (p : Pl) (i : Int) (w : World) :
   Calls Try.prog 69 #[planV p, .int .i64 i] w fun e w' => e = .returned (.bool (decide (1 ≤ i ∧ i ≤ p.N))) ∧ Below w.heap.size w w' := by
  by_cases h1 : 1 ≤ i
  · have t1 : decide (1 ≤ i) = true := decide_eq_true h1
    have hd : Hid (decide (1 ≤ i ∧ i ≤ p.N) = decide (i ≤ p.N)) := Lib.hid (by simp [h1])
    go_enter Try.func69, Try.ntmps69
    go_wp2
    go_ret
    rw [hd.out]
    exact ⟨rfl, below_alloc (Below.refl _ _) _⟩
  · have t1 : decide (1 ≤ i) = false := decide_eq_false h1
    have hd : Hid (decide (1 ≤ i ∧ i ≤ p.N) = false) := Lib.hid (by simp [h1])
    clear h1
    go_enter Try.func69, Try.ntmps69
    go_wp2
    go_ret
    rw [hd.out]
    exact ⟨rfl, below_alloc (Below.refl _ _) _⟩
theorem ceil_eq (s L k : Int) (hL : 0 < L) (h1 : s ≤ k * L) (h2 : k = 0 ∨ (k - 1) * L < s) (hs : 1 ≤ s) : (s + L - 1) / L = k := by
  rcases h2 with rfl | h2
  · omega
  · rw [Int.sub_mul, Int.one_mul] at h2
    apply Int.le_antisymm
    · apply Int.le_of_lt_add_one
      rw [Int.ediv_lt_iff_lt_mul hL, Int.add_mul, Int.one_mul]
      omega
    · rw [Int.le_ediv_iff_mul_le hL]
      omega
set_option maxRecDepth 100000 in
set_option maxHeartbeats 1600000 in
theorem rStripes_c (p : Pl) (h : p.Ok) (n : Int) (w : World) :
   Calls Try.prog 70 #[planV p, .int .i64 n] w fun e w' => e = .returned (.int .i64 (stripesOf p n)) ∧ Below w.heap.size w w' := by
  have hL1 := h.l
  have hL2 : p.L ≤ 256 := by have := h.nl; have := h.t; have := h.tl; have := h.wn; omega
  clear h
  by_cases h1 : n < 1
  · have t1 : decide (n < 1) = true := decide_eq_true h1
    have hs : Hid (stripesOf p n = 0) := Lib.hid (by unfold stripesOf; rw [if_neg (by omega)])
    go_enter Try.func70, Try.ntmps70
    go_wp2
    go_ret
    rw [hs.out]
    exact ⟨rfl, below_alloc (Below.refl _ _) _⟩
  by_cases h2 : 240 < n
  · have t1 : decide (n < 1) = false := decide_eq_false h1
    have t2 : decide (240 < n) = true := decide_eq_true h2
    have hs : Hid (stripesOf p n = 0) := Lib.hid (by unfold stripesOf; rw [if_neg (by omega)])
    clear h1
    go_enter Try.func70, Try.ntmps70
    go_wp2
    go_ret
    rw [hs.out]
    exact ⟨rfl, below_alloc (Below.refl _ _) _⟩
  · have t1 : decide (n < 1) = false := decide_eq_false h1
    have t2 : decide (240 < n) = false := decide_eq_false h2
    have hn1 : 1 ≤ n := by omega
    have hn2 : n ≤ 240 := by omega
    have hs : Hid (stripesOf p n = (n + p.L - 1) / p.L) := Lib.hid (by unfold stripesOf; rw [if_pos ⟨hn1, hn2⟩])
    have HP := Blk.new w (planC p) 33
    have c2 := (isPlan_blk HP).l
    clear h1 h2 HP
    go_enter Try.func70, Try.ntmps70
    go_wp2
    go_loop [5] (fun i => ∃ k : Nat, (k : Int) ≤ n ∧ i = .int .i64 k ∧ Hid ((k : Int) = 0 ∨ ((k : Int) - 1) * p.L < n)) (fun i => (n - intOf i).toNat)
    case atStart => exact ⟨0, by omega, rfl, Lib.hid (.inl rfl)⟩
    case round =>
      obtain ⟨k, hk, rfl, hi⟩ := hrel
      have m1 : 0 ≤ (k : Int) * p.L := Int.mul_nonneg (by omega) (by omega)
      have m2 : (k : Int) * p.L ≤ 240 * 256 := Int.le_trans (Int.mul_le_mul_of_nonneg_left hL2 (by omega)) (by omega)
      have m3 : (k : Int) ≤ (k : Int) * p.L := by have := Int.mul_le_mul_of_nonneg_left hL1 (show 0 ≤ (k : Int) by omega); omega
      by_cases hlt : (k : Int) * p.L < n
      · have hi' : Hid (((k + 1 : Nat) : Int) = 0 ∨ (((k + 1 : Nat) : Int) - 1) * p.L < n) := Lib.hid (.inr (by rw [show (((k + 1 : Nat) : Int) - 1) = (k : Int) from by omega]; exact hlt))
        go_wp2
        exact ⟨⟨k + 1, by omega, by go_num, hi'⟩, by simp [intOf]; omega⟩
      · have hc := ceil_eq n p.L k (by omega) (by omega) hi.out hn1
        have hs' : Hid (stripesOf p n = k) := Lib.hid (hs.out.trans hc)
        have t3 : decide ((k : Int) * p.L < n) = false := decide_eq_false hlt
        clear hc hlt
        go_wp2
        go_ret
        rw [hs'.out]
        exact ⟨rfl, below_alloc (Below.refl _ _) _⟩

/-! ### are numbers the same? -/
theorem take_eq_succZ {l m : List Int} (k : Nat) (h1 : k < l.length) (h2 : k < m.length) : l.take (k + 1) = m.take (k + 1) ↔ l.take k = m.take k ∧ l.getD k 0 = m.getD k 0 := by
  rw [take_snoc l k 0 h1, take_snoc m k 0 h2]
  constructor
  · intro h
    have := List.append_inj h (by simp; omega)
    exact ⟨this.1, by simpa using this.2⟩
  · rintro ⟨h, h'⟩
    rw [h, h']
set_option maxHeartbeats 800000 in
theorem rSameI_len (v u : Value) (l m : List Int) (w : World) (hv : Ri w v l) (hu : Ri w u m) (hn : l.length ≠ m.length) :
   Calls Try.prog 67 #[v, u] w fun e w' => e = .returned (.bool false) ∧ Drawn0 w w' := by
  obtain ⟨A, c, rfl, hc, hr⟩ := hv
  obtain ⟨B, d, rfl, hd, hs⟩ := hu
  have t : (l.length != m.length) = true := by simpa using hn
  have t' : ((l.length : Int) != (m.length : Int)) = true := by rw [bne_iff_ne]; omega
  go_enter Try.func67, Try.ntmps67
  go_wp2
  go_ret
  exact ⟨rfl, Drawn0.refl _⟩
set_option maxHeartbeats 800000 in
theorem rSameI_eqlen (v u : Value) (l m : List Int) (w : World) (hv : Ri w v l) (hu : Ri w u m) (hn : l.length = m.length) :
   Calls Try.prog 67 #[v, u] w fun e w' => e = .returned (.bool (decide (l = m))) ∧ Drawn0 w w' := by
  obtain ⟨A, c, rfl, hc, hr⟩ := hv
  obtain ⟨B, d, rfl, hd, hs⟩ := hu
  have hl := Kd.C_max hr
  rw [← hn] at hs
  have HN := Lib.hid hn
  rw [← hn]
  clear hn
  go_enter Try.func67, Try.ntmps67
  go_wp2
  go_loopw [5] (fun i wr => ∃ k : Nat, k ≤ l.length ∧ i = .int .i64 k ∧ Hid (l.take k = m.take k) ∧ Drawn0 w wr) (fun i _ => l.length - (intOf i).toNat)
  case atStart => exact ⟨0, by omega, rfl, Lib.hid (by simp), Drawn0.refl _⟩
  case round =>
    obtain ⟨k, hk, rfl, hr', hD⟩ := hrel
    by_cases hlt : k < l.length
    · obtain ⟨ad, rfl, c1⟩ := ki_at (Kd.C_below hr hD.below) k hlt
      obtain ⟨ad', rfl, c2⟩ := ki_at (Kd.C_below hs hD.below) k hlt
      have hi := take_eq_succZ k hlt (HN.out ▸ hlt)
      generalize l.getD k 0 = x at *
      generalize m.getD k 0 = y at *
      by_cases e : x = y
      · subst e
        have hi' := Lib.hid (hi.2 ⟨hr'.out, rfl⟩)
        clear hi
        go_wp2
        go_quiet (fail)
        go_wp2
        exact ⟨⟨k + 1, by omega, by go_num, hi', hD.step _⟩, by simp [intOf]; omega⟩
      · have t : (x != y) = true := by rw [bne_iff_ne]; exact e
        have hi' : Hid (l ≠ m) := Lib.hid (fun h => e (hi.1 (by rw [h])).2)
        clear hi e
        go_wp2
        go_quiet (fail)
        go_wp2
        go_ret
        exact ⟨by simp [hi'.out], hD.step _⟩
    · go_wp2
      go_ret
      have h1 := hr'.out
      rw [List.take_of_length_le (by omega), List.take_of_length_le (by have := HN.out; omega)] at h1
      exact ⟨by simp [h1], hD⟩
/-- Are numbers the same? -/
theorem rSameI_c (v u : Value) (l m : List Int) (w : World) (hv : Ri w v l) (hu : Ri w u m) :
   Calls Try.prog 67 #[v, u] w fun e w' => e = .returned (.bool (decide (l = m))) ∧ Drawn0 w w' := by
  by_cases hn : l.length = m.length
  · exact rSameI_eqlen v u l m w hv hu hn
  · refine (rSameI_len v u l m w hv hu hn).mono fun e w' h => ⟨?_, h.2⟩
    rw [h.1, decide_eq_false (fun e => hn (by rw [e]))]

/-! ### are bytes unlike? -/
theorem nodup_succ {l : List F} {k : Nat} (h : k < l.length) : (l.take (k + 1)).Nodup ↔ (l.take k).Nodup ∧ ∀ j, j < k → l.getD k 0 ≠ l.getD j 0 := by
  rw [take_snoc l k 0 h, List.nodup_append]
  constructor
  · rintro ⟨h1, _, h2⟩
    refine ⟨h1, fun j hj e => h2 (l.getD j 0) ?_ (l.getD k 0) (by simp) e.symm⟩
    rw [List.mem_take_iff_getElem]
    exact ⟨j, by omega, by simp [List.getD_eq_getElem?_getD, show j < l.length by omega]⟩
  · rintro ⟨h1, h2⟩
    refine ⟨h1, by simp, fun a ha b hb e => ?_⟩
    rw [List.mem_take_iff_getElem] at ha
    obtain ⟨j, hj, hja⟩ := ha
    have hb' : b = l.getD k 0 := by simpa using hb
    exact h2 j (by omega) (by rw [← hb', ← e, ← hja]; simp [List.getD_eq_getElem?_getD, show j < l.length by omega])
set_option maxRecDepth 100000 in
set_option maxHeartbeats 1600000 in
theorem rUnlike_c (v : Value) (l : List F) (w : World) (hv : Rb w v l) :
   Calls Try.prog 56 #[v] w fun e w' => e = .returned (.bool (decide l.Nodup)) ∧ Drawn0 w w' := by
  obtain ⟨A, c, rfl, hc, hr⟩ := hv
  have hl := kb_len hr
  go_enter Try.func56, Try.ntmps56
  go_wp2
  go_loopw [3] (fun i wr => ∃ k : Nat, k ≤ l.length ∧ i = .int .i64 k ∧ Hid ((l.take k).Nodup) ∧ Drawn0 w wr) (fun i _ => l.length - (intOf i).toNat)
  case atStart => exact ⟨0, by omega, rfl, Lib.hid (by simp), Drawn0.refl _⟩
  case round =>
    obtain ⟨k, hk, rfl, hN, hD⟩ := hrel
    by_cases hlt : k < l.length
    · obtain ⟨wo, rfl⟩ : ∃ wo : World, wo = wr := ⟨_, rfl⟩
      go_wp2
      go_loopw [4] (fun i wi => ∃ j : Nat, j ≤ k ∧ i = .int .i64 j ∧ Hid (∀ j', j' < j → l.getD k 0 ≠ l.getD j' 0) ∧ Drawn0 w wi) (fun i _ => k - (intOf i).toNat)
      case atStart => exact ⟨0, by omega, rfl, Lib.hid (fun j' h => absurd h (Nat.not_lt_zero _)), hD⟩
      case round =>
        obtain ⟨j, hj, rfl, hM, hD'⟩ := hrel
        by_cases hlt' : j < k
        · obtain ⟨ad, rfl, c1⟩ := kb_at (kb_drawn hr hD') k hlt
          obtain ⟨ad', e', c2⟩ := kb_at (kb_drawn hr hD') j (by omega)
          obtain rfl : ad = ad' := Option.some.inj e'
          clear e'
          by_cases e : l.getD k 0 = l.getD j 0
          · have hf : Hid (decide l.Nodup = false) := Lib.hid (decide_eq_false (fun h => by
              have h1 := (nodup_succ hlt).1 (h.sublist (List.take_sublist _ _))
              exact h1.2 j hlt' e))
            rw [← e] at c2
            generalize l.getD k 0 = x at *
            clear e
            go_wp2
            go_quiet (fail)
            go_wp2
            go_ret
            rw [hf.out]
            exact ⟨rfl, hD'.step _⟩
          · have t : (((l.getD k 0).n : Int) == ((l.getD j 0).n : Int)) = false := beq_eq_false_iff_ne.2 (fun h => e (F.n_inj (by omega)))
            have hM' : Hid (∀ j', j' < j + 1 → l.getD k 0 ≠ l.getD j' 0) := Lib.hid (fun j' h => by
              by_cases e1 : j' = j
              · rw [e1]; exact e
              · exact hM.out j' (by omega))
            clear hM
            generalize l.getD k 0 = x at *
            generalize l.getD j 0 = y at *
            clear e
            go_wp2
            go_quiet (fail)
            go_wp2
            exact ⟨⟨j + 1, by omega, by go_num, hM', hD'.step _⟩, by simp [intOf]; omega⟩
        · obtain rfl : j = k := by omega
          have hN' := Lib.hid ((nodup_succ hlt).2 ⟨hN.out, hM.out⟩)
          go_wp2
          exact ⟨⟨j + 1, by omega, by go_num, hN', hD'⟩, by simp [intOf]; omega⟩
    · obtain rfl : k = l.length := by omega
      have h1 := hN.out
      rw [List.take_length] at h1
      have hf := Lib.hid (decide_eq_true h1)
      clear h1
      go_wp2
      go_ret
      rw [hf.out]
      exact ⟨rfl, hD⟩
end Go.Proofs.Ytijeabhfddaoaaa
