/- The walks of the reference of layer 8. -/
import Derived.Test.YtijeabhfddaoaaaPlan2
namespace Go.Proofs.Ytijeabhfddaoaaa
set_option linter.unusedVariables false
open Go.RowKit Go.Proofs.YtijeabhfddaoaaaW.PrintWords Go.Proofs.Sh

set_option maxRecDepth 100000 in
set_option maxHeartbeats 1600000 in
theorem rRight_yes (p : Pl) (h : p.Ok) (w : World) :
   Calls Try.prog 48 #[planV p] w fun e w' => e = .returned (.bool true) ∧ Below w.heap.size w w' := by
  obtain ⟨a1, a2, a3, a4, a5, a6, a7, a8, a9⟩ := h
  have t0 : decide (p.T < 1) = false := decide_eq_false (by omega)
  have t1 : decide (p.L < 1) = false := decide_eq_false (by omega)
  have t2 : decide (256 < p.N) = false := decide_eq_false (by omega)
  have t3 : decide (p.N < p.W) = false := decide_eq_false (by omega)
  have t4 : decide (256 < p.T) = false := decide_eq_false (by omega)
  have t5 : decide (256 < p.L) = false := decide_eq_false (by omega)
  have t6 : decide (p.T + p.L ≤ p.W) = true := decide_eq_true (by omega)
  have t7 : decide (p.N + p.L ≤ 256) = true := decide_eq_true (by omega)
  have t8 : decide (1 ≤ p.S) = true := decide_eq_true (by omega)
  have t9 : decide (p.S ≤ 256) = true := decide_eq_true (by omega)
  have t10 : decide (1 ≤ p.R) = true := decide_eq_true (by omega)
  have t11 : decide (p.R ≤ 64) = true := decide_eq_true (by omega)
  go_enter Try.func48, Try.ntmps48
  go_wp2
  go_ret
  exact ⟨rfl, below_alloc (Below.refl _ _) _⟩
set_option maxRecDepth 100000 in
set_option maxHeartbeats 6400000 in
theorem rRight_no (p : Pl) (hi : p.In) (h : ¬ p.Ok) (w : World) :
   Calls Try.prog 48 #[planV p] w fun e w' => e = .returned (.bool false) ∧ Below w.heap.size w w' := by
  rw [Pl.ok_iff] at h
  have H := Lib.hid h
  clear h
  obtain ⟨b1, b2⟩ := hi.n
  clear hi
  by_cases h0 : p.T < 1
  · have t0 : decide (p.T < 1) = true := decide_eq_true h0
    go_enter Try.func48, Try.ntmps48
    go_wp2
    go_ret
    exact ⟨rfl, below_alloc (Below.refl _ _) _⟩
  · skip
    by_cases h1 : p.L < 1
    · have t0 : decide (p.T < 1) = false := decide_eq_false h0
      have t1 : decide (p.L < 1) = true := decide_eq_true h1
      go_enter Try.func48, Try.ntmps48
      go_wp2
      go_ret
      exact ⟨rfl, below_alloc (Below.refl _ _) _⟩
    · skip
      by_cases h2 : 256 < p.N
      · have t0 : decide (p.T < 1) = false := decide_eq_false h0
        have t1 : decide (p.L < 1) = false := decide_eq_false h1
        have t2 : decide (256 < p.N) = true := decide_eq_true h2
        go_enter Try.func48, Try.ntmps48
        go_wp2
        go_ret
        exact ⟨rfl, below_alloc (Below.refl _ _) _⟩
      · skip
        by_cases h3 : p.N < p.W
        · have t0 : decide (p.T < 1) = false := decide_eq_false h0
          have t1 : decide (p.L < 1) = false := decide_eq_false h1
          have t2 : decide (256 < p.N) = false := decide_eq_false h2
          have t3 : decide (p.N < p.W) = true := decide_eq_true h3
          go_enter Try.func48, Try.ntmps48
          go_wp2
          go_ret
          exact ⟨rfl, below_alloc (Below.refl _ _) _⟩
        · skip
          by_cases h4 : 256 < p.T
          · have t0 : decide (p.T < 1) = false := decide_eq_false h0
            have t1 : decide (p.L < 1) = false := decide_eq_false h1
            have t2 : decide (256 < p.N) = false := decide_eq_false h2
            have t3 : decide (p.N < p.W) = false := decide_eq_false h3
            have t4 : decide (256 < p.T) = true := decide_eq_true h4
            go_enter Try.func48, Try.ntmps48
            go_wp2
            go_ret
            exact ⟨rfl, below_alloc (Below.refl _ _) _⟩
          · skip
            by_cases h5 : 256 < p.L
            · have t0 : decide (p.T < 1) = false := decide_eq_false h0
              have t1 : decide (p.L < 1) = false := decide_eq_false h1
              have t2 : decide (256 < p.N) = false := decide_eq_false h2
              have t3 : decide (p.N < p.W) = false := decide_eq_false h3
              have t4 : decide (256 < p.T) = false := decide_eq_false h4
              have t5 : decide (256 < p.L) = true := decide_eq_true h5
              go_enter Try.func48, Try.ntmps48
              go_wp2
              go_ret
              exact ⟨rfl, below_alloc (Below.refl _ _) _⟩
            · skip
              by_cases h6 : p.T + p.L ≤ p.W
              · skip
                by_cases h7 : p.N + p.L ≤ 256
                · skip
                  by_cases h8 : 1 ≤ p.S
                  · skip
                    by_cases h9 : p.S ≤ 256
                    · skip
                      by_cases h10 : 1 ≤ p.R
                      · skip
                        by_cases h11 : p.R ≤ 64
                        · skip
                          exact absurd ⟨by omega, by omega, by omega, by omega, by omega, by omega, by omega, by omega, by omega⟩ H.out
                        · have t0 : decide (p.T < 1) = false := decide_eq_false h0
                          have t1 : decide (p.L < 1) = false := decide_eq_false h1
                          have t2 : decide (256 < p.N) = false := decide_eq_false h2
                          have t3 : decide (p.N < p.W) = false := decide_eq_false h3
                          have t4 : decide (256 < p.T) = false := decide_eq_false h4
                          have t5 : decide (256 < p.L) = false := decide_eq_false h5
                          have t6 : decide (p.T + p.L ≤ p.W) = true := decide_eq_true h6
                          have t7 : decide (p.N + p.L ≤ 256) = true := decide_eq_true h7
                          have t8 : decide (1 ≤ p.S) = true := decide_eq_true h8
                          have t9 : decide (p.S ≤ 256) = true := decide_eq_true h9
                          have t10 : decide (1 ≤ p.R) = true := decide_eq_true h10
                          have t11 : decide (p.R ≤ 64) = false := decide_eq_false h11
                          go_enter Try.func48, Try.ntmps48
                          go_wp2
                          go_ret
                          exact ⟨rfl, below_alloc (Below.refl _ _) _⟩
                      · have t0 : decide (p.T < 1) = false := decide_eq_false h0
                        have t1 : decide (p.L < 1) = false := decide_eq_false h1
                        have t2 : decide (256 < p.N) = false := decide_eq_false h2
                        have t3 : decide (p.N < p.W) = false := decide_eq_false h3
                        have t4 : decide (256 < p.T) = false := decide_eq_false h4
                        have t5 : decide (256 < p.L) = false := decide_eq_false h5
                        have t6 : decide (p.T + p.L ≤ p.W) = true := decide_eq_true h6
                        have t7 : decide (p.N + p.L ≤ 256) = true := decide_eq_true h7
                        have t8 : decide (1 ≤ p.S) = true := decide_eq_true h8
                        have t9 : decide (p.S ≤ 256) = true := decide_eq_true h9
                        have t10 : decide (1 ≤ p.R) = false := decide_eq_false h10
                        go_enter Try.func48, Try.ntmps48
                        go_wp2
                        go_ret
                        exact ⟨rfl, below_alloc (Below.refl _ _) _⟩
                    · have t0 : decide (p.T < 1) = false := decide_eq_false h0
                      have t1 : decide (p.L < 1) = false := decide_eq_false h1
                      have t2 : decide (256 < p.N) = false := decide_eq_false h2
                      have t3 : decide (p.N < p.W) = false := decide_eq_false h3
                      have t4 : decide (256 < p.T) = false := decide_eq_false h4
                      have t5 : decide (256 < p.L) = false := decide_eq_false h5
                      have t6 : decide (p.T + p.L ≤ p.W) = true := decide_eq_true h6
                      have t7 : decide (p.N + p.L ≤ 256) = true := decide_eq_true h7
                      have t8 : decide (1 ≤ p.S) = true := decide_eq_true h8
                      have t9 : decide (p.S ≤ 256) = false := decide_eq_false h9
                      go_enter Try.func48, Try.ntmps48
                      go_wp2
                      go_ret
                      exact ⟨rfl, below_alloc (Below.refl _ _) _⟩
                  · have t0 : decide (p.T < 1) = false := decide_eq_false h0
                    have t1 : decide (p.L < 1) = false := decide_eq_false h1
                    have t2 : decide (256 < p.N) = false := decide_eq_false h2
                    have t3 : decide (p.N < p.W) = false := decide_eq_false h3
                    have t4 : decide (256 < p.T) = false := decide_eq_false h4
                    have t5 : decide (256 < p.L) = false := decide_eq_false h5
                    have t6 : decide (p.T + p.L ≤ p.W) = true := decide_eq_true h6
                    have t7 : decide (p.N + p.L ≤ 256) = true := decide_eq_true h7
                    have t8 : decide (1 ≤ p.S) = false := decide_eq_false h8
                    go_enter Try.func48, Try.ntmps48
                    go_wp2
                    go_ret
                    exact ⟨rfl, below_alloc (Below.refl _ _) _⟩
                · have t0 : decide (p.T < 1) = false := decide_eq_false h0
                  have t1 : decide (p.L < 1) = false := decide_eq_false h1
                  have t2 : decide (256 < p.N) = false := decide_eq_false h2
                  have t3 : decide (p.N < p.W) = false := decide_eq_false h3
                  have t4 : decide (256 < p.T) = false := decide_eq_false h4
                  have t5 : decide (256 < p.L) = false := decide_eq_false h5
                  have t6 : decide (p.T + p.L ≤ p.W) = true := decide_eq_true h6
                  have t7 : decide (p.N + p.L ≤ 256) = false := decide_eq_false h7
                  go_enter Try.func48, Try.ntmps48
                  go_wp2
                  go_ret
                  exact ⟨rfl, below_alloc (Below.refl _ _) _⟩
              · have t0 : decide (p.T < 1) = false := decide_eq_false h0
                have t1 : decide (p.L < 1) = false := decide_eq_false h1
                have t2 : decide (256 < p.N) = false := decide_eq_false h2
                have t3 : decide (p.N < p.W) = false := decide_eq_false h3
                have t4 : decide (256 < p.T) = false := decide_eq_false h4
                have t5 : decide (256 < p.L) = false := decide_eq_false h5
                have t6 : decide (p.T + p.L ≤ p.W) = false := decide_eq_false h6
                go_enter Try.func48, Try.ntmps48
                go_wp2
                go_ret
                exact ⟨rfl, below_alloc (Below.refl _ _) _⟩
end Go.Proofs.Ytijeabhfddaoaaa
