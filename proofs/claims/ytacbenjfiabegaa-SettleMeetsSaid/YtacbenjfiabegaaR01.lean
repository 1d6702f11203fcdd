/- The walks of the reference of layer 1: products bit by bit, inverses, powers, sums of products. -/
import Derived.Test.YtacbenjfiabegaaK4
namespace Go.Proofs.Ytacbenjfiabegaa
open Go.RowKit Go.Proofs.YtacbenjfiabegaaW.PrintWords Go.Proofs.Sh

/-! ### the product -/
theorem and_one_i64 (m : Nat) (hm : m < 2 ^ 32) : Go.bits .and .i64 (m : Int) 1 = ((m % 2 : Nat) : Int) := by
  have := bits_mask .i64 63 (by decide) (fun n h0 h1 => by rw [IntKind.wrap_i64]; omega) 1 (by omega) (m : Int) (by omega) (by omega)
  simpa using this
def rMulInv (a b k x s : Nat) : Prop := x < 256 ∧ s < 256 ∧ F.mulN (8 - k) x (b / 2 ^ k) s = F.bitMul a b
theorem rMul_step {a b k x s : Nat} (hk : k < 8) (h : rMulInv a b k x s) :
    rMulInv a b (k + 1) (if 255 < x * 2 then (x * 2) ^^^ 283 else x * 2) (if (b / 2 ^ k) % 2 = 1 then s ^^^ x else s) := by
  obtain ⟨hx, hs, h⟩ := h
  have e : 8 - k = (8 - (k + 1)) + 1 := by omega
  rw [e] at h
  simp only [F.mulN] at h
  refine ⟨?_, ?_, ?_⟩
  · split
    · have h2 : (x * 2) ^^^ 283 < 2 ^ 9 := Nat.xor_lt_two_pow (by omega) (by omega)
      have h3 : ((x * 2) ^^^ 283) / 2 ^ 8 = (x * 2) / 2 ^ 8 ^^^ 283 / 2 ^ 8 := by simpa [Nat.shiftRight_eq_div_pow] using Nat.shiftRight_xor_distrib (a := x * 2) (b := 283) (i := 8)
      have h4 : (x * 2) / 2 ^ 8 = 1 := by omega
      rw [h4] at h3
      have h5 : (1 ^^^ 283 / 2 ^ 8 : Nat) = 0 := by decide
      omega
    · omega
  · split
    · exact Nat.xor_lt_two_pow (n := 8) hs hx
    · exact hs
  · rw [← h, Nat.pow_succ, ← Nat.div_div_eq_div_mul]
    congr 1
    · by_cases c : 255 < x * 2
      · rw [if_pos c]
        have : Nat.ble (x * 2) 255 = false := by
          cases e : Nat.ble (x * 2) 255
          · rfl
          · exact absurd (Nat.le_of_ble_eq_true e) (by omega)
        rw [this]; rfl
      · rw [if_neg c, Nat.ble_eq_true_of_le (by omega)]; rfl
    · by_cases c : (b / 2 ^ k) % 2 = 1
      · rw [if_pos c, c]; rfl
      · have c0 : (b / 2 ^ k) % 2 = 0 := by omega
        rw [if_neg c, c0]; rfl
/-! ### the inverse -/
/-! ### are bytes the same? -/
theorem getD_eq {l : List F} {k : Nat} (hk : k < l.length) : l.getD k 0 = l[k] := by simp [List.getD_eq_getElem?_getD, hk]
theorem take_eq_succ {l m : List F} (k : Nat) (h1 : k < l.length) (h2 : k < m.length) : l.take (k + 1) = m.take (k + 1) ↔ l.take k = m.take k ∧ l.getD k 0 = m.getD k 0 := by
  rw [List.take_succ_eq_append_getElem h1, List.take_succ_eq_append_getElem h2, getD_eq h1, getD_eq h2]
  constructor
  · intro h
    have := List.append_inj h (by simp; omega)
    exact ⟨this.1, by simpa using this.2⟩
  · rintro ⟨h, h'⟩
    rw [h, h']
set_option maxHeartbeats 800000 in
theorem rSame_len (v u : Value) (l m : List F) (w : World) (hv : Rb w v l) (hu : Rb w u m) (hn : l.length ≠ m.length) :
   Calls Try.prog 53 #[v, u] w fun e w' => e = .returned (.bool false) ∧ Drawn0 w w' := by
  obtain ⟨A, c, rfl, hc, hr⟩ := hv
  obtain ⟨B, d, rfl, hd, hs⟩ := hu
  have t : (l.length != m.length) = true := by simpa using hn
  have t' : ((l.length : Int) != (m.length : Int)) = true := by rw [bne_iff_ne]; omega
  go_enter Try.func53, Try.ntmps53
  go_wp2
  go_ret
  exact ⟨rfl, Drawn0.refl _⟩
set_option maxHeartbeats 800000 in
theorem rSame_eqlen (v u : Value) (l m : List F) (w : World) (hv : Rb w v l) (hu : Rb w u m) (hn : l.length = m.length) :
   Calls Try.prog 53 #[v, u] w fun e w' => e = .returned (.bool (decide (l = m))) ∧ Drawn0 w w' := by
  obtain ⟨A, c, rfl, hc, hr⟩ := hv
  obtain ⟨B, d, rfl, hd, hs⟩ := hu
  have hl := kb_len hr
  rw [← hn] at hs
  have HN := Lib.hid hn
  rw [← hn]
  clear hn
  go_enter Try.func53, Try.ntmps53
  go_wp2
  go_loopw [5] (fun i wr => ∃ k : Nat, k ≤ l.length ∧ i = .int .i64 k ∧ Hid (l.take k = m.take k) ∧ Drawn0 w wr) (fun i _ => l.length - (intOf i).toNat)
  case atStart => exact ⟨0, by omega, rfl, Lib.hid (by simp), Drawn0.refl _⟩
  case round =>
    obtain ⟨k, hk, rfl, hr', ⟨nd, rfl⟩⟩ := hrel
    by_cases hlt : k < l.length
    · obtain ⟨ad, rfl, c1⟩ := kb_at hr k hlt
      obtain ⟨ad', rfl, c2⟩ := kb_at hs k hlt
      have hi := take_eq_succ k hlt (HN.out ▸ hlt)
      generalize l.getD k 0 = x at *
      generalize m.getD k 0 = y at *
      by_cases e : x = y
      · subst e
        have hi' := Lib.hid (hi.2 ⟨hr'.out, rfl⟩)
        clear hi
        go_wp2
        go_quiet (fail)
        go_wp2
        exact ⟨⟨k + 1, by omega, by go_num, hi', (by repeat (first | exact Drawn0.refl _ | apply Drawn0.step))⟩, by simp [intOf]; omega⟩
      · have t : ((x.n : Int) != (y.n : Int)) = true := by rw [bne_iff_ne]; intro h; exact e (F.n_inj (by omega))
        have hi' : Hid (l ≠ m) := Lib.hid (fun h => e (hi.1 (by rw [h])).2)
        clear hi e
        go_wp2
        go_quiet (fail)
        go_wp2
        go_ret
        exact ⟨by simp [hi'.out], (by repeat (first | exact Drawn0.refl _ | apply Drawn0.step))⟩
    · go_wp2
      go_ret
      have h1 := hr'.out
      rw [List.take_of_length_le (by omega), List.take_of_length_le (by have := HN.out; omega)] at h1
      exact ⟨by simp [h1], (by repeat (first | exact Drawn0.refl _ | apply Drawn0.step))⟩
/-- Are bytes the same? -/
theorem rSame_c (v u : Value) (l m : List F) (w : World) (hv : Rb w v l) (hu : Rb w u m) :
   Calls Try.prog 53 #[v, u] w fun e w' => e = .returned (.bool (decide (l = m))) ∧ Drawn0 w w' := by
  by_cases hn : l.length = m.length
  · exact rSame_eqlen v u l m w hv hu hn
  · refine (rSame_len v u l m w hv hu hn).mono fun e w' h => ⟨?_, h.2⟩
    rw [h.1, decide_eq_false (fun e => hn (by rw [e]))]

/-! ### sums of products -/
theorem xor_n (x y : F) : Go.bits .xor .i64 (x.n : Int) (y.n : Int) = ((x + y).n : Int) := by
  have h1 := x.n_lt
  have h2 := y.n_lt
  rw [i64_xor_nat _ _ (by omega) (by omega), F.add_n]
/-! ### powers -/
end Go.Proofs.Ytacbenjfiabegaa
