/- The walks of package gf: a field's tables in memory, products, inverses, quotients, powers, sums of products. -/
import Derived.Test.YtacbenjfiabegaaK4
namespace Go.Proofs.Ytacbenjfiabegaa
open Go.RowKit Go.Proofs.YtacbenjfiabegaaW.PrintWords Go.Proofs.Sh

/-- A field's tables lie in block b. -/
structure IsField (w : World) (b : Nat) : Prop where
  exp : ∀ i : Nat, i < 510 → w.cell? ⟨b, i, none⟩ = some (.int .u8 (F.expAt i : Nat))
  log : ∀ i : Nat, i < 256 → w.cell? ⟨b, 510 + i, none⟩ = some (.int .i64 (F.logAt i : Nat))
theorem IsField.lt {w : World} {b : Nat} (h : IsField w b) : b < w.heap.size := World.block_lt_of_cell? w _ (h.exp 0 (by omega))
theorem IsField.below {w w' : World} {b : Nat} (h : IsField w b) (hb : Below w.heap.size w w') : IsField w' b :=
  ⟨fun i hi => pw_cell_below hb (h.exp i hi), fun i hi => pw_cell_below hb (h.log i hi)⟩
theorem IsField.drew {w : World} {b : Nat} (h : IsField w b) : IsField w.drew b := ⟨h.exp, h.log⟩
theorem IsField.drewN {w : World} {b : Nat} (h : IsField w b) (n : Nat) : IsField (w.drewN n) b := ⟨h.exp, h.log⟩
/-- A pointer to a field. -/
abbrev fp (b : Nat) : Value := .pointer (some ⟨b, 0, none⟩)

/-! ### gf.New -/
def newE (i j : Nat) : Nat := if j % 255 < i then F.expAt j else 0
def newL (i a : Nat) : Nat := if a ≠ 0 ∧ F.logAt a < i then F.logAt a else 0
structure NewRel (fb i : Nat) (w : World) : Prop where
  exp : ∀ j : Nat, j < 510 → w.cell? ⟨fb, j, none⟩ = some (.int .u8 (newE i j : Nat))
  log : ∀ a : Nat, a < 256 → w.cell? ⟨fb, 510 + a, none⟩ = some (.int .i64 (newL i a : Nat))
  fr : ∀ o : Nat, w.frozen? ⟨fb, o, none⟩ = false
theorem new_done {fb : Nat} {w : World} (h : NewRel fb 255 w) : IsField w fb := by
  refine ⟨fun i hi => ?_, fun a ha => ?_⟩
  · rw [h.exp i hi]
    unfold newE
    rw [if_pos (Nat.mod_lt _ (by decide))]
  · rw [h.log a ha]
    unfold newL
    by_cases e : a = 0
    · subst e; rfl
    · rw [if_pos ⟨e, (F.exp_log e ha).2⟩]
theorem new_step {fb k : Nat} {w : World} (h : NewRel fb k w) (hk : k < 255) {w' : World}
    (hw : w' = ((w.setCell ⟨fb, k, none⟩ (.int .u8 (F.expAt k : Nat))).setCell ⟨fb, k + 255, none⟩ (.int .u8 (F.expAt k : Nat))).setCell ⟨fb, 510 + F.expAt k, none⟩ (.int .i64 (k : Nat)) ) : NewRel fb (k + 1) w' := by
  subst hw
  have hx := F.expAt_lt k
  have hx0 := F.exp_pos hk
  have hle := F.log_exp hk
  refine ⟨fun j hj => ?_, fun a ha => ?_, fun o => ?_⟩
  · rw [cell_set_ne (by omega)]
    by_cases e1 : j = k + 255
    · subst e1
      rw [cell_set_same (u := .int .u8 (newE k (k + 255) : Nat)) (by rw [cell_set_ne (by omega)]; exact h.exp _ hj)]
      unfold newE
      rw [if_pos (by omega), F.exp_again hk]
    · rw [cell_set_ne (Ne.symm e1)]
      by_cases e2 : j = k
      · subst e2
        rw [cell_set_same (h.exp _ hj)]
        unfold newE
        rw [if_pos (by omega)]
      · rw [cell_set_ne (Ne.symm e2), h.exp j hj]
        unfold newE
        by_cases e3 : j % 255 < k
        · rw [if_pos e3, if_pos (by omega)]
        · rw [if_neg e3, if_neg (by omega)]
  · by_cases e1 : a = F.expAt k
    · subst e1
      rw [cell_set_same (u := .int .i64 (newL k (F.expAt k) : Nat)) (by rw [cell_set_ne (by omega), cell_set_ne (by omega)]; exact h.log _ ha)]
      unfold newL
      rw [hle, if_pos ⟨by omega, by omega⟩]
    · rw [cell_set_ne (by omega), cell_set_ne (by omega), cell_set_ne (by omega), h.log a ha]
      unfold newL
      by_cases e2 : a = 0
      · rw [if_neg (fun h => h.1 e2), if_neg (fun h => h.1 e2)]
      · have e3 : F.logAt a ≠ k := fun e => e1 (by rw [← e, (F.exp_log e2 ha).1])
        by_cases e4 : F.logAt a < k
        · rw [if_pos ⟨e2, e4⟩, if_pos ⟨e2, by omega⟩]
        · rw [if_neg (fun h => e4 h.2), if_neg (fun h => by omega)]
  · rw [frozen_set, frozen_set, frozen_set]
    exact h.fr o
theorem shl1 (x : Nat) (hx : x < 256) : Go.bits .xor .i64 (x : Int) ((x * 2 : Nat) : Int) = ((x ^^^ x * 2 : Nat) : Int) := i64_xor_nat _ _ (by omega) (by omega)
theorem pow_step (k : Nat) (hk : k < 255) : F.expAt (k + 1) = (let y := F.expAt k ^^^ (F.expAt k * 2); if 255 < y then y ^^^ 283 else y) := by
  rw [F.powers (by omega), F.powers (by omega)]
  rfl
/-! ### sums, products -/
set_option maxHeartbeats 400000 in
theorem add_c (x y : F) (w : World) (X Y : Int) (hX : X = x.n) (hY : Y = y.n) :
   Calls Try.prog 103 #[.int .u8 X, .int .u8 Y] w fun e w' => e = .returned (.int .u8 ((x + y).n : Int)) ∧ w = w' := by
  subst hX; subst hY
  have h := Lib.hid (xor8 x y)
  go_enter Try.func103, Try.ntmps103
  go_wp2
  go_ret
  rw [← h.out]
  exact ⟨rfl, rfl⟩
theorem n_beq_zero {x : F} (h : x ≠ 0) : ((x.n : Int) == 0) = false := beq_eq_false_iff_ne.2 (by have := F.n_pos h; omega)
/-! ### inverses, quotients -/
/-! ### sums of products -/
/-! ### powers -/
theorem tmod255 (k : Int) : -255 < k.tmod 255 ∧ k.tmod 255 < 255 ∧ ∃ q : Int, k = k.tmod 255 + 255 * q := by
  have h : 255 * k.tdiv 255 + k.tmod 255 = k := Int.mul_tdiv_add_tmod k 255
  refine ⟨?_, ?_, k.tdiv 255, by omega⟩
  · rcases Int.le_total 0 k with hk | hk
    · rw [Int.tmod_eq_emod_of_nonneg hk]; omega
    · obtain ⟨m, rfl⟩ : ∃ m, k = -m := ⟨-k, by omega⟩
      rw [Int.neg_tmod, Int.tmod_eq_emod_of_nonneg (by omega)]; omega
  · rcases Int.le_total 0 k with hk | hk
    · rw [Int.tmod_eq_emod_of_nonneg hk]; omega
    · obtain ⟨m, rfl⟩ : ∃ m, k = -m := ⟨-k, by omega⟩
      rw [Int.neg_tmod, Int.tmod_eq_emod_of_nonneg (by omega)]; omega
theorem pow_idx (lx : Nat) (hl : lx < 255) (k : Int) : (wrap64 ((wrap64 ((lx : Int) * k.tmod 255)).tmod 255 + 255)).tmod 255 = (((lx : Int) * k) % 255) := by
  obtain ⟨h1, h2, q, hq⟩ := tmod255 k
  generalize k.tmod 255 = t at *
  have b1 : (lx : Int) * t ≤ 255 * 255 := Int.le_trans (Int.mul_le_mul_of_nonneg_left (by omega : t ≤ 255) (by omega)) (Int.mul_le_mul_of_nonneg_right (by omega) (by omega))
  have b2 : -(255 * 255) ≤ (lx : Int) * t := by
    have : (lx : Int) * (-t) ≤ 255 * 255 := Int.le_trans (Int.mul_le_mul_of_nonneg_left (by omega : -t ≤ 255) (by omega)) (Int.mul_le_mul_of_nonneg_right (by omega) (by omega))
    rw [Int.mul_neg] at this
    omega
  have hk : (lx : Int) * k = (lx : Int) * t + 255 * ((lx : Int) * q) := by rw [hq, Int.mul_add, Int.mul_left_comm]
  rw [hk, Int.add_mul_emod_self_left]
  generalize (lx : Int) * t = p at *
  rw [show wrap64 p = p from by unfold wrap64; omega]
  obtain ⟨h3, h4, q', hq'⟩ := tmod255 p
  generalize p.tmod 255 = r at *
  rw [show wrap64 (r + 255) = r + 255 from by unfold wrap64; omega, Int.tmod_eq_emod_of_nonneg (by omega)]
  omega
end Go.Proofs.Ytacbenjfiabegaa
