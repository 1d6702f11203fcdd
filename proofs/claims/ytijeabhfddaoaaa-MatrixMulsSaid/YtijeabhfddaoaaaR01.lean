/- The walks of the reference of layer 1: products bit by bit, inverses, powers, sums of products. -/
import Derived.Test.YtijeabhfddaoaaaK4
namespace Go.Proofs.Ytijeabhfddaoaaa
open Go.RowKit Go.Proofs.YtijeabhfddaoaaaW.PrintWords Go.Proofs.Sh

/-! ### the product -/
theorem and_one_i64 (m : Nat) (hm : m < 2 ^ 32) : Go.bits .and .i64 (m : Int) 1 = ((m % 2 : Nat) : Int) := by
  have := bits_mask .i64 63 (by decide) (fun n h0 h1 => by rw [IntKind.wrap_i64]; omega) 1 (by omega) (m : Int) (by omega) (by omega)
  simpa using this
def rMulInv (a b k x s : Nat) : Prop := x < 256 ∧ s < 256 ∧ F.mulN (8 - k) x (b / 2 ^ k) s = F.bitMul a b
theorem rMul_step {a b k x s : Nat} (hk : k < 8) (h : rMulInv a b k x s) :
    rMulInv a b (k + 1) (if 255 < x * 2 then (x * 2) ^^^ 283 else x * 2) (if (b / 2 ^ k) % 2 = 1 then s ^^^ x else s) := by
  obtain ⟨hx, hs, h⟩ := h
  have e : 8 - k = (8 - (k + 1)) + 1 := by omega
  rw [e] at h
  simp only [F.mulN] at h
  refine ⟨?_, ?_, ?_⟩
  · split
    · have h2 : (x * 2) ^^^ 283 < 2 ^ 9 := Nat.xor_lt_two_pow (by omega) (by omega)
      have h3 : ((x * 2) ^^^ 283) / 2 ^ 8 = (x * 2) / 2 ^ 8 ^^^ 283 / 2 ^ 8 := by simpa [Nat.shiftRight_eq_div_pow] using Nat.shiftRight_xor_distrib (a := x * 2) (b := 283) (i := 8)
      have h4 : (x * 2) / 2 ^ 8 = 1 := by omega
      rw [h4] at h3
      have h5 : (1 ^^^ 283 / 2 ^ 8 : Nat) = 0 := by decide
      omega
    · omega
  · split
    · exact Nat.xor_lt_two_pow (n := 8) hs hx
    · exact hs
  · rw [← h, Nat.pow_succ, ← Nat.div_div_eq_div_mul]
    congr 1
    · by_cases c : 255 < x * 2
      · rw [if_pos c]
        have : Nat.ble (x * 2) 255 = false := by
          cases e : Nat.ble (x * 2) 255
          · rfl
          · exact absurd (Nat.le_of_ble_eq_true e) (by omega)
        rw [this]; rfl
      · rw [if_neg c, Nat.ble_eq_true_of_le (by omega)]; rfl
    · by_cases c : (b / 2 ^ k) % 2 = 1
      · rw [if_pos c, c]; rfl
      · have c0 : (b / 2 ^ k) % 2 = 0 := by omega
        rw [if_neg c, c0]; rfl
set_option maxHeartbeats 800000 in
set_option maxRecDepth 100000 in
theorem rMul_n (a b : Nat) (ha : a < 256) (hb : b < 256) (w : World) :
   Calls Try.prog 41 #[.int .u8 (a : Int), .int .u8 (b : Int)] w fun e w' => e = .returned (.int .u8 (F.bitMul a b : Nat)) ∧ w = w' := by
  have hb' : (b : Int) < 256 := by omega
  have ha' : (a : Int) < 256 := by omega
  go_enter Try.func41, Try.ntmps41
  go_wp2
  go_loop [5, 6, 7] (fun s x i => ∃ k X S : Nat, k ≤ 8 ∧ i = .int .i64 k ∧ x = .int .i64 X ∧ s = .int .i64 S ∧ rMulInv a b k X S) (fun _ _ i => 8 - (intOf i).toNat)
  case atStart => exact ⟨0, a, 0, by omega, rfl, rfl, rfl, ha, by omega, by simp [F.bitMul]⟩
  case round =>
    obtain ⟨k, X, S, hk, rfl, rfl, rfl, hr⟩ := hrel
    have hX : (X : Int) < 256 := by have := hr.1; omega
    have hS : (S : Int) < 256 := by have := hr.2.1; omega
    by_cases hlt : k < 8
    · have hst := rMul_step hlt hr
      have hbk : ((b : Int) / 2 ^ k) = ((b / 2 ^ k : Nat) : Int) := by rw [Int.natCast_ediv, Int.natCast_pow]; rfl
      have hbk2 : b / 2 ^ k < 2 ^ 32 := Nat.lt_of_le_of_lt (Nat.div_le_self _ _) (by omega)
      have hba := and_one_i64 _ hbk2
      rw [← hbk] at hba
      have hx1 : Go.bits .xor .i64 ((X : Int) * 2) 283 = ((X * 2 ^^^ 283 : Nat) : Int) := by
        have := i64_xor_nat (X * 2) 283 (by omega) (by omega)
        simpa using this
      have hx2 : Go.bits .xor .i64 (S : Int) (X : Int) = ((S ^^^ X : Nat) : Int) := i64_xor_nat _ _ (by omega) (by omega)
      by_cases c1 : (b / 2 ^ k) % 2 = 1
      · have t1 : (Go.bits .and .i64 ((b : Int) / 2 ^ k) 1 == 1) = true := by rw [hba, c1]; rfl
        rw [if_pos c1] at hst
        clear hba hbk c1
        by_cases c2 : 255 < X * 2
        · rw [if_pos c2] at hst
          have t2 : (255 : Int) < (X : Int) * 2 := by omega
          go_wp2
          exact ⟨⟨k + 1, _, _, by omega, by go_num, rfl, rfl, hst⟩, by simp [intOf]; omega⟩
        · rw [if_neg c2] at hst
          have t2 : (X : Int) * 2 ≤ 255 := by omega
          go_wp2
          exact ⟨⟨k + 1, _, _, by omega, by go_num, by go_num, rfl, hst⟩, by simp [intOf]; omega⟩
      · have t1 : (Go.bits .and .i64 ((b : Int) / 2 ^ k) 1 == 1) = false := by rw [hba, show (b / 2 ^ k) % 2 = 0 from by omega]; rfl
        rw [if_neg c1] at hst
        clear hba hbk c1
        by_cases c2 : 255 < X * 2
        · rw [if_pos c2] at hst
          have t2 : (255 : Int) < (X : Int) * 2 := by omega
          go_wp2
          exact ⟨⟨k + 1, _, _, by omega, by go_num, rfl, rfl, hst⟩, by simp [intOf]; omega⟩
        · rw [if_neg c2] at hst
          have t2 : (X : Int) * 2 ≤ 255 := by omega
          go_wp2
          exact ⟨⟨k + 1, _, _, by omega, by go_num, by go_num, rfl, hst⟩, by simp [intOf]; omega⟩
    · obtain rfl : k = 8 := by omega
      have hf := hr.2.2
      simp only [Nat.sub_self, F.mulN] at hf
      subst hf
      go_wp2
      go_ret
      exact ⟨rfl, rfl⟩
/-- The reference's product is the field's. -/
theorem rMul_c (x y : F) (w : World) (X Y : Int) (hX : X = x.n) (hY : Y = y.n) :
   Calls Try.prog 41 #[.int .u8 X, .int .u8 Y] w fun e w' => e = .returned (.int .u8 ((x * y).n : Int)) ∧ w = w' := by
  subst hX; subst hY
  exact (rMul_n x.n y.n x.n_lt y.n_lt w).mono fun e w' h => ⟨by rw [h.1, F.bitMul_eq x.n_lt y.n_lt, F.mul_n], h.2⟩

/-! ### the inverse -/
set_option maxHeartbeats 800000 in
set_option maxRecDepth 100000 in
theorem rInv_c (x : F) (w : World) (X : Int) (hX : X = x.n) :
   Calls Try.prog 43 #[.int .u8 X] w fun e w' => e = .returned (.int .u8 ((F.inv x).n : Int)) ∧ w = w' := by
  subst hX
  go_enter Try.func43, Try.ntmps43
  go_wp2
  go_loop [3] (fun i => ∃ k : Nat, 1 ≤ k ∧ k ≤ 256 ∧ i = .int .i64 k ∧ ∀ j, 1 ≤ j → j < k → x * F.of j ≠ 1) (fun i => 256 - (intOf i).toNat)
  case atStart => exact ⟨1, by omega, by omega, rfl, fun j h1 h2 => by omega⟩
  case round =>
    obtain ⟨k, hk1, hk, rfl, hr⟩ := hrel
    have HR := Lib.hid hr
    clear hr
    by_cases hlt : k < 256
    · have hkm : (k : Int) % 256 = ((F.of k).n : Int) := by rw [F.n_of hlt]; omega
      by_cases c : x * F.of k = 1
      · have hv : F.inv x = F.of k := (F.eq_inv c).symm
        have hn : (x * F.of k).n = 1 := by rw [c]; rfl
        have hz : ((F.inv x).n : Int) = k := by rw [hv, F.n_of hlt]
        have HN := Lib.hid hn
        have HZ := Lib.hid hz
        clear hn hv hkm c hz
        go_wp2_with fail
        refine (rMul_c x (F.of k) _ _ _ rfl (by rw [F.n_of hlt])).mono ?_
        rintro e w' ⟨rfl, rfl⟩
        rw [HN.out]
        go_wp2
        go_ret
        exact ⟨by rw [HZ.out]; rfl, rfl⟩
      · have hn : (x * F.of k).n ≠ 1 := fun e => c (F.n_inj e)
        have HN : Hid (((x * F.of k).n : Int) ≠ 1) := Lib.hid (by omega)
        have HC := Lib.hid c
        clear hn hkm c
        go_wp2_with fail
        refine (rMul_c x (F.of k) _ _ _ rfl (by rw [F.n_of hlt])).mono ?_
        rintro e w' ⟨rfl, rfl⟩
        have t : (((x * F.of k).n : Int) == 1) = false := beq_eq_false_iff_ne.2 HN.out
        go_wp2
        refine ⟨⟨k + 1, by omega, by omega, by go_num, fun j h1 h2 => ?_⟩, by simp [intOf]; omega⟩
        by_cases e : j = k
        · rw [e]; exact HC.out
        · exact HR.out j h1 (by omega)
    · obtain rfl : k = 256 := by omega
      have h0 : x = 0 := Classical.byContradiction fun h0 => by
        have h1 := F.mul_inv h0
        have h2 := F.inv_ne h0
        have h3 := (F.inv x).n_lt
        have h4 := F.n_pos h2
        exact HR.out (F.inv x).n h4 h3 (by rw [F.of_n]; exact h1)
      subst h0
      go_wp2
      go_ret
      exact ⟨rfl, rfl⟩

/-! ### are bytes the same? -/
theorem getD_eq {l : List F} {k : Nat} (hk : k < l.length) : l.getD k 0 = l[k] := by simp [List.getD_eq_getElem?_getD, hk]
theorem take_eq_succ {l m : List F} (k : Nat) (h1 : k < l.length) (h2 : k < m.length) : l.take (k + 1) = m.take (k + 1) ↔ l.take k = m.take k ∧ l.getD k 0 = m.getD k 0 := by
  rw [List.take_succ_eq_append_getElem h1, List.take_succ_eq_append_getElem h2, getD_eq h1, getD_eq h2]
  constructor
  · intro h
    have := List.append_inj h (by simp; omega)
    exact ⟨this.1, by simpa using this.2⟩
  · rintro ⟨h, h'⟩
    rw [h, h']
set_option maxHeartbeats 800000 in
theorem rSame_len (v u : Value) (l m : List F) (w : World) (hv : Rb w v l) (hu : Rb w u m) (hn : l.length ≠ m.length) :
   Calls Try.prog 60 #[v, u] w fun e w' => e = .returned (.bool false) ∧ Drawn0 w w' := by
  obtain ⟨A, c, rfl, hc, hr⟩ := hv
  obtain ⟨B, d, rfl, hd, hs⟩ := hu
  have t : (l.length != m.length) = true := by simpa using hn
  have t' : ((l.length : Int) != (m.length : Int)) = true := by rw [bne_iff_ne]; omega
  go_enter Try.func60, Try.ntmps60
  go_wp2
  go_ret
  exact ⟨rfl, Drawn0.refl _⟩
set_option maxHeartbeats 800000 in
theorem rSame_eqlen (v u : Value) (l m : List F) (w : World) (hv : Rb w v l) (hu : Rb w u m) (hn : l.length = m.length) :
   Calls Try.prog 60 #[v, u] w fun e w' => e = .returned (.bool (decide (l = m))) ∧ Drawn0 w w' := by
  obtain ⟨A, c, rfl, hc, hr⟩ := hv
  obtain ⟨B, d, rfl, hd, hs⟩ := hu
  have hl := kb_len hr
  rw [← hn] at hs
  have HN := Lib.hid hn
  rw [← hn]
  clear hn
  go_enter Try.func60, Try.ntmps60
  go_wp2
  go_loopw [5] (fun i wr => ∃ k : Nat, k ≤ l.length ∧ i = .int .i64 k ∧ Hid (l.take k = m.take k) ∧ Drawn0 w wr) (fun i _ => l.length - (intOf i).toNat)
  case atStart => exact ⟨0, by omega, rfl, Lib.hid (by simp), Drawn0.refl _⟩
  case round =>
    obtain ⟨k, hk, rfl, hr', ⟨nd, rfl⟩⟩ := hrel
    by_cases hlt : k < l.length
    · obtain ⟨ad, rfl, c1⟩ := kb_at hr k hlt
      obtain ⟨ad', rfl, c2⟩ := kb_at hs k hlt
      have hi := take_eq_succ k hlt (HN.out ▸ hlt)
      generalize l.getD k 0 = x at *
      generalize m.getD k 0 = y at *
      by_cases e : x = y
      · subst e
        have hi' := Lib.hid (hi.2 ⟨hr'.out, rfl⟩)
        clear hi
        go_wp2
        go_quiet (fail)
        go_wp2
        exact ⟨⟨k + 1, by omega, by go_num, hi', (by repeat (first | exact Drawn0.refl _ | apply Drawn0.step))⟩, by simp [intOf]; omega⟩
      · have t : ((x.n : Int) != (y.n : Int)) = true := by rw [bne_iff_ne]; intro h; exact e (F.n_inj (by omega))
        have hi' : Hid (l ≠ m) := Lib.hid (fun h => e (hi.1 (by rw [h])).2)
        clear hi e
        go_wp2
        go_quiet (fail)
        go_wp2
        go_ret
        exact ⟨by simp [hi'.out], (by repeat (first | exact Drawn0.refl _ | apply Drawn0.step))⟩
    · go_wp2
      go_ret
      have h1 := hr'.out
      rw [List.take_of_length_le (by omega), List.take_of_length_le (by have := HN.out; omega)] at h1
      exact ⟨by simp [h1], (by repeat (first | exact Drawn0.refl _ | apply Drawn0.step))⟩
/-- Are bytes the same? -/
theorem rSame_c (v u : Value) (l m : List F) (w : World) (hv : Rb w v l) (hu : Rb w u m) :
   Calls Try.prog 60 #[v, u] w fun e w' => e = .returned (.bool (decide (l = m))) ∧ Drawn0 w w' := by
  by_cases hn : l.length = m.length
  · exact rSame_eqlen v u l m w hv hu hn
  · refine (rSame_len v u l m w hv hu hn).mono fun e w' h => ⟨?_, h.2⟩
    rw [h.1, decide_eq_false (fun e => hn (by rw [e]))]

/-! ### sums of products -/
theorem xor_n (x y : F) : Go.bits .xor .i64 (x.n : Int) (y.n : Int) = ((x + y).n : Int) := by
  have h1 := x.n_lt
  have h2 := y.n_lt
  rw [i64_xor_nat _ _ (by omega) (by omega), F.add_n]
set_option maxHeartbeats 800000 in
theorem rDot_c (v u : Value) (l m : List F) (w : World) (hv : Rb w v l) (hu : Rb w u m) :
   Calls Try.prog 53 #[v, u] w fun e w' => e = .returned (.int .u8 ((dot l m).n : Int)) ∧ Drawn0 w w' := by
  obtain ⟨A, c, rfl, hc, hr⟩ := hv
  obtain ⟨B, d, rfl, hd, hs⟩ := hu
  have hl := kb_len hr
  have hl' := kb_len hs
  go_enter Try.func53, Try.ntmps53
  go_wp2
  go_loopw [5, 6] (fun s i wr => ∃ (k : Nat) (x : F), k ≤ l.length ∧ k ≤ m.length ∧ i = .int .i64 k ∧ s = .int .i64 (x.n : Int) ∧ Hid (x = dot (l.take k) (m.take k)) ∧ Drawn0 w wr) (fun _ i _ => l.length - (intOf i).toNat)
  case atStart => exact ⟨0, 0, by omega, by omega, rfl, rfl, Lib.hid (by simp [dot]), Drawn0.refl _⟩
  case round =>
    obtain ⟨k, x, hk, hk', rfl, rfl, hx, hD⟩ := hrel
    have hx1 := n_lt' x
    have hx2 := n_ge x
    by_cases hlt : k < l.length
    · by_cases hlt' : k < m.length
      · obtain ⟨ad, rfl, c1⟩ := kb_at (kb_drawn hr hD) k hlt
        obtain ⟨ad', rfl, c2⟩ := kb_at (kb_drawn hs hD) k hlt'
        have hi := dot_take l m k hlt hlt'
        generalize l.getD k 0 = a at *
        generalize m.getD k 0 = b at *
        have hi' : Hid (x + a * b = dot (l.take (k + 1)) (m.take (k + 1))) := Lib.hid (by rw [hi, hx.out])
        have hxor := Lib.hid (xor_n x (a * b))
        have hN := wrap_n (a * b)
        clear hi
        go_wp2
        go_quiet ((go_at_call 41; exact qs (rMul_c a b _ _ _ rfl rfl)))
        go_wp2
        rw [hxor.out]
        exact ⟨⟨k + 1, _, by omega, by omega, by go_num, rfl, hi', hD.step _⟩, by simp [intOf]; omega⟩
      · have t1 : decide ((k : Int) < (m.length : Int)) = false := decide_eq_false (by omega)
        go_wp2
        go_ret
        have h1 := hx.out
        rw [dot_take_min _ _ _ (by omega)] at h1
        subst h1
        exact ⟨rfl, hD⟩
    · go_wp2
      go_ret
      have h1 := hx.out
      rw [dot_take_min _ _ _ (by omega)] at h1
      subst h1
      exact ⟨rfl, hD⟩

/-! ### powers -/
set_option maxHeartbeats 800000 in
theorem rPow_c (x : F) : ∀ (n : Nat) (k : Int), k = n → k < 9223372036854775808 → ∀ w : World,
   Calls Try.prog 135 #[.int .u8 (x.n : Int), .int .i64 k] w fun e w' => e = .returned (.int .u8 ((F.pw x n).n : Int)) ∧ w = w' := by
  intro n
  induction n using Nat.strongRecOn with
  | ind n ih =>
    intro k hk hb w
    by_cases h0 : n = 0
    · subst h0
      obtain rfl : k = 0 := hk
      go_enter Try.func135, Try.ntmps135
      go_wp2
      go_ret
      exact ⟨rfl, rfl⟩
    · have ih' := Lib.hid (ih (n / 2) (by omega) ((n / 2 : Nat) : Int) rfl (by omega))
      clear ih
      have t0 : (k == 0) = false := beq_eq_false_iff_ne.2 (by omega)
      have k0 : 0 ≤ k := by omega
      have e1 : k / 2 = ((n / 2 : Nat) : Int) := by omega
      by_cases h1 : n % 2 = 0
      · have t1 : (k % 2 == 0) = true := beq_iff_eq.2 (by omega)
        have hp : Hid (F.pw x (n / 2) * F.pw x (n / 2) = F.pw x n) := Lib.hid (by rw [← F.pw_add]; congr 1; omega)
        clear hk h1 h0
        go_enter Try.func135, Try.ntmps135
        go_wp2_with fail
        refine (ih'.out _).mono ?_
        rintro e w' ⟨rfl, rfl⟩
        go_wp2_with fail
        refine (rMul_c (F.pw x (n / 2)) (F.pw x (n / 2)) _ _ _ rfl rfl).mono ?_
        rintro e w' ⟨rfl, rfl⟩
        rw [hp.out]
        go_wp2
        go_ret
        exact ⟨rfl, rfl⟩
      · have t1 : (k % 2 == 0) = false := beq_eq_false_iff_ne.2 (by omega)
        have hp : Hid (F.pw x (n / 2) * F.pw x (n / 2) * x = F.pw x n) := Lib.hid (by
          rw [← F.pw_add, F.mul_comm]
          show F.pw x (n / 2 + n / 2 + 1) = _
          congr 1; omega)
        clear hk h1 h0
        go_enter Try.func135, Try.ntmps135
        go_wp2_with fail
        refine (ih'.out _).mono ?_
        rintro e w' ⟨rfl, rfl⟩
        go_wp2_with fail
        refine (rMul_c (F.pw x (n / 2)) (F.pw x (n / 2)) _ _ _ rfl rfl).mono ?_
        rintro e w' ⟨rfl, rfl⟩
        go_wp2_with fail
        refine (rMul_c (F.pw x (n / 2) * F.pw x (n / 2)) x _ _ _ rfl rfl).mono ?_
        rintro e w' ⟨rfl, rfl⟩
        rw [hp.out]
        go_wp2
        go_ret
        exact ⟨rfl, rfl⟩
set_option maxHeartbeats 800000 in
/-- Raise: any power. -/
theorem rRaise_c (x : F) (k : Int) (hk1 : -9223372036854775808 ≤ k) (hk2 : k < 9223372036854775808) (w : World) :
   Calls Try.prog 47 #[.int .u8 (x.n : Int), .int .i64 k] w fun e w' => e = .returned (.int .u8 ((F.pwZ x k).n : Int)) ∧ w = w' := by
  by_cases h : 0 ≤ k
  · have hp : Hid (F.pw x k.toNat = F.pwZ x k) := Lib.hid (by unfold F.pwZ; rw [if_pos h])
    go_enter Try.func47, Try.ntmps47
    go_wp2_with fail
    refine (rPow_c x k.toNat k (by omega) hk2 _).mono ?_
    rintro e w' ⟨rfl, rfl⟩
    rw [hp.out]
    go_wp2
    go_ret
    exact ⟨rfl, rfl⟩
  · have hp : Hid (F.pw (F.inv x) (-(k + 1)).toNat * F.inv x = F.pwZ x k) := Lib.hid (by
      unfold F.pwZ
      rw [if_neg h, F.mul_comm]
      show F.pw (F.inv x) ((-(k + 1)).toNat + 1) = _
      congr 1; omega)
    have h' : k < 0 := by omega
    go_enter Try.func47, Try.ntmps47
    go_wp2_with fail
    refine (rInv_c x _ _ rfl).mono ?_
    rintro e w' ⟨rfl, rfl⟩
    go_wp2_with fail
    refine (rPow_c (F.inv x) (-(k + 1)).toNat _ (by omega) (by omega) _).mono ?_
    rintro e w' ⟨rfl, rfl⟩
    go_wp2_with fail
    refine (rInv_c x _ _ rfl).mono ?_
    rintro e w' ⟨rfl, rfl⟩
    go_wp2_with fail
    refine (rMul_c _ _ _ _ _ rfl rfl).mono ?_
    rintro e w' ⟨rfl, rfl⟩
    rw [hp.out]
    go_wp2
    go_ret
    exact ⟨rfl, rfl⟩
end Go.Proofs.Ytijeabhfddaoaaa
