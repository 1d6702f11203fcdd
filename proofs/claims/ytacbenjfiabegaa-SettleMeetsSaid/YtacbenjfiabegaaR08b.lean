/- Several texts of this seat, one behind the other. -/
import Derived.Test.YtacbenjfiabegaaPlan2
/- The walks of the reference of layer 8. -/
namespace Go.Proofs.Ytacbenjfiabegaa
set_option linter.unusedVariables false
open Go.RowKit Go.Proofs.YtacbenjfiabegaaW.PrintWords Go.Proofs.Sh

set_option maxRecDepth 100000 in
set_option maxHeartbeats 1600000 in
theorem rRight_yes (p : Pl) (h : p.Ok) (w : World) :
   Calls Try.prog 22 #[planV p] w fun e w' => e = .returned (.bool true) ∧ Below w.heap.size w w' := by
  obtain ⟨a1, a2, a3, a4, a5, a6, a7, a8, a9⟩ := h
  have t0 : decide (p.T < 1) = false := decide_eq_false (by omega)
  have t1 : decide (p.L < 1) = false := decide_eq_false (by omega)
  have t2 : decide (256 < p.N) = false := decide_eq_false (by omega)
  have t3 : decide (p.N < p.W) = false := decide_eq_false (by omega)
  have t4 : decide (256 < p.T) = false := decide_eq_false (by omega)
  have t5 : decide (256 < p.L) = false := decide_eq_false (by omega)
  have t6 : decide (p.T + p.L ≤ p.W) = true := decide_eq_true (by omega)
  have t7 : decide (p.N + p.L ≤ 256) = true := decide_eq_true (by omega)
  have t8 : decide (1 ≤ p.S) = true := decide_eq_true (by omega)
  have t9 : decide (p.S ≤ 256) = true := decide_eq_true (by omega)
  have t10 : decide (1 ≤ p.R) = true := decide_eq_true (by omega)
  have t11 : decide (p.R ≤ 64) = true := decide_eq_true (by omega)
  go_enter Try.func22, Try.ntmps22
  go_wp2
  go_ret
  exact ⟨rfl, below_alloc (Below.refl _ _) _⟩
set_option maxRecDepth 100000 in
set_option maxHeartbeats 6400000 in
theorem rRight_no (p : Pl) (hi : p.In) (h : ¬ p.Ok) (w : World) :
   Calls Try.prog 22 #[planV p] w fun e w' => e = .returned (.bool false) ∧ Below w.heap.size w w' := by
  rw [Pl.ok_iff] at h
  have H := Lib.hid h
  clear h
  obtain ⟨b1, b2⟩ := hi.n
  clear hi
  by_cases h0 : p.T < 1
  · have t0 : decide (p.T < 1) = true := decide_eq_true h0
    go_enter Try.func22, Try.ntmps22
    go_wp2
    go_ret
    exact ⟨rfl, below_alloc (Below.refl _ _) _⟩
  · skip
    by_cases h1 : p.L < 1
    · have t0 : decide (p.T < 1) = false := decide_eq_false h0
      have t1 : decide (p.L < 1) = true := decide_eq_true h1
      go_enter Try.func22, Try.ntmps22
      go_wp2
      go_ret
      exact ⟨rfl, below_alloc (Below.refl _ _) _⟩
    · skip
      by_cases h2 : 256 < p.N
      · have t0 : decide (p.T < 1) = false := decide_eq_false h0
        have t1 : decide (p.L < 1) = false := decide_eq_false h1
        have t2 : decide (256 < p.N) = true := decide_eq_true h2
        go_enter Try.func22, Try.ntmps22
        go_wp2
        go_ret
        exact ⟨rfl, below_alloc (Below.refl _ _) _⟩
      · skip
        by_cases h3 : p.N < p.W
        · have t0 : decide (p.T < 1) = false := decide_eq_false h0
          have t1 : decide (p.L < 1) = false := decide_eq_false h1
          have t2 : decide (256 < p.N) = false := decide_eq_false h2
          have t3 : decide (p.N < p.W) = true := decide_eq_true h3
          go_enter Try.func22, Try.ntmps22
          go_wp2
          go_ret
          exact ⟨rfl, below_alloc (Below.refl _ _) _⟩
        · skip
          by_cases h4 : 256 < p.T
          · have t0 : decide (p.T < 1) = false := decide_eq_false h0
            have t1 : decide (p.L < 1) = false := decide_eq_false h1
            have t2 : decide (256 < p.N) = false := decide_eq_false h2
            have t3 : decide (p.N < p.W) = false := decide_eq_false h3
            have t4 : decide (256 < p.T) = true := decide_eq_true h4
            go_enter Try.func22, Try.ntmps22
            go_wp2
            go_ret
            exact ⟨rfl, below_alloc (Below.refl _ _) _⟩
          · skip
            by_cases h5 : 256 < p.L
            · have t0 : decide (p.T < 1) = false := decide_eq_false h0
              have t1 : decide (p.L < 1) = false := decide_eq_false h1
              have t2 : decide (256 < p.N) = false := decide_eq_false h2
              have t3 : decide (p.N < p.W) = false := decide_eq_false h3
              have t4 : decide (256 < p.T) = false := decide_eq_false h4
              have t5 : decide (256 < p.L) = true := decide_eq_true h5
              go_enter Try.func22, Try.ntmps22
              go_wp2
              go_ret
              exact ⟨rfl, below_alloc (Below.refl _ _) _⟩
            · skip
              by_cases h6 : p.T + p.L ≤ p.W
              · skip
                by_cases h7 : p.N + p.L ≤ 256
                · skip
                  by_cases h8 : 1 ≤ p.S
                  · skip
                    by_cases h9 : p.S ≤ 256
                    · skip
                      by_cases h10 : 1 ≤ p.R
                      · skip
                        by_cases h11 : p.R ≤ 64
                        · skip
                          exact absurd ⟨by omega, by omega, by omega, by omega, by omega, by omega, by omega, by omega, by omega⟩ H.out
                        · have t0 : decide (p.T < 1) = false := decide_eq_false h0
                          have t1 : decide (p.L < 1) = false := decide_eq_false h1
                          have t2 : decide (256 < p.N) = false := decide_eq_false h2
                          have t3 : decide (p.N < p.W) = false := decide_eq_false h3
                          have t4 : decide (256 < p.T) = false := decide_eq_false h4
                          have t5 : decide (256 < p.L) = false := decide_eq_false h5
                          have t6 : decide (p.T + p.L ≤ p.W) = true := decide_eq_true h6
                          have t7 : decide (p.N + p.L ≤ 256) = true := decide_eq_true h7
                          have t8 : decide (1 ≤ p.S) = true := decide_eq_true h8
                          have t9 : decide (p.S ≤ 256) = true := decide_eq_true h9
                          have t10 : decide (1 ≤ p.R) = true := decide_eq_true h10
                          have t11 : decide (p.R ≤ 64) = false := decide_eq_false h11
                          go_enter Try.func22, Try.ntmps22
                          go_wp2
                          go_ret
                          exact ⟨rfl, below_alloc (Below.refl _ _) _⟩
                      · have t0 : decide (p.T < 1) = false := decide_eq_false h0
                        have t1 : decide (p.L < 1) = false := decide_eq_false h1
                        have t2 : decide (256 < p.N) = false := decide_eq_false h2
                        have t3 : decide (p.N < p.W) = false := decide_eq_false h3
                        have t4 : decide (256 < p.T) = false := decide_eq_false h4
                        have t5 : decide (256 < p.L) = false := decide_eq_false h5
                        have t6 : decide (p.T + p.L ≤ p.W) = true := decide_eq_true h6
                        have t7 : decide (p.N + p.L ≤ 256) = true := decide_eq_true h7
                        have t8 : decide (1 ≤ p.S) = true := decide_eq_true h8
                        have t9 : decide (p.S ≤ 256) = true := decide_eq_true h9
                        have t10 : decide (1 ≤ p.R) = false := decide_eq_false h10
                        go_enter Try.func22, Try.ntmps22
                        go_wp2
                        go_ret
                        exact ⟨rfl, below_alloc (Below.refl _ _) _⟩
                    · have t0 : decide (p.T < 1) = false := decide_eq_false h0
                      have t1 : decide (p.L < 1) = false := decide_eq_false h1
                      have t2 : decide (256 < p.N) = false := decide_eq_false h2
                      have t3 : decide (p.N < p.W) = false := decide_eq_false h3
                      have t4 : decide (256 < p.T) = false := decide_eq_false h4
                      have t5 : decide (256 < p.L) = false := decide_eq_false h5
                      have t6 : decide (p.T + p.L ≤ p.W) = true := decide_eq_true h6
                      have t7 : decide (p.N + p.L ≤ 256) = true := decide_eq_true h7
                      have t8 : decide (1 ≤ p.S) = true := decide_eq_true h8
                      have t9 : decide (p.S ≤ 256) = false := decide_eq_false h9
                      go_enter Try.func22, Try.ntmps22
                      go_wp2
                      go_ret
                      exact ⟨rfl, below_alloc (Below.refl _ _) _⟩
                  · have t0 : decide (p.T < 1) = false := decide_eq_false h0
                    have t1 : decide (p.L < 1) = false := decide_eq_false h1
                    have t2 : decide (256 < p.N) = false := decide_eq_false h2
                    have t3 : decide (p.N < p.W) = false := decide_eq_false h3
                    have t4 : decide (256 < p.T) = false := decide_eq_false h4
                    have t5 : decide (256 < p.L) = false := decide_eq_false h5
                    have t6 : decide (p.T + p.L ≤ p.W) = true := decide_eq_true h6
                    have t7 : decide (p.N + p.L ≤ 256) = true := decide_eq_true h7
                    have t8 : decide (1 ≤ p.S) = false := decide_eq_false h8
                    go_enter Try.func22, Try.ntmps22
                    go_wp2
                    go_ret
                    exact ⟨rfl, below_alloc (Below.refl _ _) _⟩
                · have t0 : decide (p.T < 1) = false := decide_eq_false h0
                  have t1 : decide (p.L < 1) = false := decide_eq_false h1
                  have t2 : decide (256 < p.N) = false := decide_eq_false h2
                  have t3 : decide (p.N < p.W) = false := decide_eq_false h3
                  have t4 : decide (256 < p.T) = false := decide_eq_false h4
                  have t5 : decide (256 < p.L) = false := decide_eq_false h5
                  have t6 : decide (p.T + p.L ≤ p.W) = true := decide_eq_true h6
                  have t7 : decide (p.N + p.L ≤ 256) = false := decide_eq_false h7
                  go_enter Try.func22, Try.ntmps22
                  go_wp2
                  go_ret
                  exact ⟨rfl, below_alloc (Below.refl _ _) _⟩
              · have t0 : decide (p.T < 1) = false := decide_eq_false h0
                have t1 : decide (p.L < 1) = false := decide_eq_false h1
                have t2 : decide (256 < p.N) = false := decide_eq_false h2
                have t3 : decide (p.N < p.W) = false := decide_eq_false h3
                have t4 : decide (256 < p.T) = false := decide_eq_false h4
                have t5 : decide (256 < p.L) = false := decide_eq_false h5
                have t6 : decide (p.T + p.L ≤ p.W) = false := decide_eq_false h6
                go_enter Try.func22, Try.ntmps22
                go_wp2
                go_ret
                exact ⟨rfl, below_alloc (Below.refl _ _) _⟩
end Go.Proofs.Ytacbenjfiabegaa

/- The walks of the reference of layer 8, the rest; whether bytes are unlike. -/
namespace Go.Proofs.Ytacbenjfiabegaa
set_option linter.unusedVariables false
open Go.RowKit Go.Proofs.YtacbenjfiabegaaW.PrintWords Go.Proofs.Sh

set_option maxRecDepth 100000 in
set_option maxHeartbeats 1600000 in
theorem rIs_c (p : Pl) (i : Int) (w : World) :
   Calls Try.prog 82 #[planV p, .int .i64 i] w fun e w' => e = .returned (.bool (decide (1 ≤ i ∧ i ≤ p.N))) ∧ Below w.heap.size w w' := by
  by_cases h1 : 1 ≤ i
  · have t1 : decide (1 ≤ i) = true := decide_eq_true h1
    have hd : Hid (decide (1 ≤ i ∧ i ≤ p.N) = decide (i ≤ p.N)) := Lib.hid (by simp [h1])
    go_enter Try.func82, Try.ntmps82
    go_wp2
    go_ret
    rw [hd.out]
    exact ⟨rfl, below_alloc (Below.refl _ _) _⟩
  · have t1 : decide (1 ≤ i) = false := decide_eq_false h1
    have hd : Hid (decide (1 ≤ i ∧ i ≤ p.N) = false) := Lib.hid (by simp [h1])
    clear h1
    go_enter Try.func82, Try.ntmps82
    go_wp2
    go_ret
    rw [hd.out]
    exact ⟨rfl, below_alloc (Below.refl _ _) _⟩
theorem ceil_eq (s L k : Int) (hL : 0 < L) (h1 : s ≤ k * L) (h2 : k = 0 ∨ (k - 1) * L < s) (hs : 1 ≤ s) : (s + L - 1) / L = k := by
  rcases h2 with rfl | h2
  · omega
  · rw [Int.sub_mul, Int.one_mul] at h2
    apply Int.le_antisymm
    · apply Int.le_of_lt_add_one
      rw [Int.ediv_lt_iff_lt_mul hL, Int.add_mul, Int.one_mul]
      omega
    · rw [Int.le_ediv_iff_mul_le hL]
      omega
/-! ### are numbers the same? -/
theorem take_eq_succZ {l m : List Int} (k : Nat) (h1 : k < l.length) (h2 : k < m.length) : l.take (k + 1) = m.take (k + 1) ↔ l.take k = m.take k ∧ l.getD k 0 = m.getD k 0 := by
  rw [take_snoc l k 0 h1, take_snoc m k 0 h2]
  constructor
  · intro h
    have := List.append_inj h (by simp; omega)
    exact ⟨this.1, by simpa using this.2⟩
  · rintro ⟨h, h'⟩
    rw [h, h']
set_option maxHeartbeats 800000 in
theorem rSameI_len (v u : Value) (l m : List Int) (w : World) (hv : Ri w v l) (hu : Ri w u m) (hn : l.length ≠ m.length) :
   Calls Try.prog 47 #[v, u] w fun e w' => e = .returned (.bool false) ∧ Drawn0 w w' := by
  obtain ⟨A, c, rfl, hc, hr⟩ := hv
  obtain ⟨B, d, rfl, hd, hs⟩ := hu
  have t : (l.length != m.length) = true := by simpa using hn
  have t' : ((l.length : Int) != (m.length : Int)) = true := by rw [bne_iff_ne]; omega
  go_enter Try.func47, Try.ntmps47
  go_wp2
  go_ret
  exact ⟨rfl, Drawn0.refl _⟩
set_option maxHeartbeats 800000 in
theorem rSameI_eqlen (v u : Value) (l m : List Int) (w : World) (hv : Ri w v l) (hu : Ri w u m) (hn : l.length = m.length) :
   Calls Try.prog 47 #[v, u] w fun e w' => e = .returned (.bool (decide (l = m))) ∧ Drawn0 w w' := by
  obtain ⟨A, c, rfl, hc, hr⟩ := hv
  obtain ⟨B, d, rfl, hd, hs⟩ := hu
  have hl := Kd.C_max hr
  rw [← hn] at hs
  have HN := Lib.hid hn
  rw [← hn]
  clear hn
  go_enter Try.func47, Try.ntmps47
  go_wp2
  go_loopw [5] (fun i wr => ∃ k : Nat, k ≤ l.length ∧ i = .int .i64 k ∧ Hid (l.take k = m.take k) ∧ Drawn0 w wr) (fun i _ => l.length - (intOf i).toNat)
  case atStart => exact ⟨0, by omega, rfl, Lib.hid (by simp), Drawn0.refl _⟩
  case round =>
    obtain ⟨k, hk, rfl, hr', hD⟩ := hrel
    by_cases hlt : k < l.length
    · obtain ⟨ad, rfl, c1⟩ := ki_at (Kd.C_below hr hD.below) k hlt
      obtain ⟨ad', rfl, c2⟩ := ki_at (Kd.C_below hs hD.below) k hlt
      have hi := take_eq_succZ k hlt (HN.out ▸ hlt)
      generalize l.getD k 0 = x at *
      generalize m.getD k 0 = y at *
      by_cases e : x = y
      · subst e
        have hi' := Lib.hid (hi.2 ⟨hr'.out, rfl⟩)
        clear hi
        go_wp2
        go_quiet (fail)
        go_wp2
        exact ⟨⟨k + 1, by omega, by go_num, hi', hD.step _⟩, by simp [intOf]; omega⟩
      · have t : (x != y) = true := by rw [bne_iff_ne]; exact e
        have hi' : Hid (l ≠ m) := Lib.hid (fun h => e (hi.1 (by rw [h])).2)
        clear hi e
        go_wp2
        go_quiet (fail)
        go_wp2
        go_ret
        exact ⟨by simp [hi'.out], hD.step _⟩
    · go_wp2
      go_ret
      have h1 := hr'.out
      rw [List.take_of_length_le (by omega), List.take_of_length_le (by have := HN.out; omega)] at h1
      exact ⟨by simp [h1], hD⟩
/-- Are numbers the same? -/
theorem rSameI_c (v u : Value) (l m : List Int) (w : World) (hv : Ri w v l) (hu : Ri w u m) :
   Calls Try.prog 47 #[v, u] w fun e w' => e = .returned (.bool (decide (l = m))) ∧ Drawn0 w w' := by
  by_cases hn : l.length = m.length
  · exact rSameI_eqlen v u l m w hv hu hn
  · refine (rSameI_len v u l m w hv hu hn).mono fun e w' h => ⟨?_, h.2⟩
    rw [h.1, decide_eq_false (fun e => hn (by rw [e]))]

/-! ### are bytes unlike? -/
theorem nodup_succ {l : List F} {k : Nat} (h : k < l.length) : (l.take (k + 1)).Nodup ↔ (l.take k).Nodup ∧ ∀ j, j < k → l.getD k 0 ≠ l.getD j 0 := by
  rw [take_snoc l k 0 h, List.nodup_append]
  constructor
  · rintro ⟨h1, _, h2⟩
    refine ⟨h1, fun j hj e => h2 (l.getD j 0) ?_ (l.getD k 0) (by simp) e.symm⟩
    rw [List.mem_take_iff_getElem]
    exact ⟨j, by omega, by simp [List.getD_eq_getElem?_getD, show j < l.length by omega]⟩
  · rintro ⟨h1, h2⟩
    refine ⟨h1, by simp, fun a ha b hb e => ?_⟩
    rw [List.mem_take_iff_getElem] at ha
    obtain ⟨j, hj, hja⟩ := ha
    have hb' : b = l.getD k 0 := by simpa using hb
    exact h2 j (by omega) (by rw [← hb', ← e, ← hja]; simp [List.getD_eq_getElem?_getD, show j < l.length by omega])
end Go.Proofs.Ytacbenjfiabegaa
