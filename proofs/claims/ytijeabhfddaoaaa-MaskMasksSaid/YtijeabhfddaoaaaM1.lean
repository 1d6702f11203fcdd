/- Bytes are a field: plain, no Go in sight. -/
import Derived.Test.YtijeabhfddaoaaaM0
namespace Go.Proofs.Sh
namespace F
theorem beq_false {a b : Nat} (h : a ≠ b) : Nat.beq a b = false := by
  cases e : Nat.beq a b
  · rfl
  · exact absurd (Nat.eq_of_beq_eq_true e) h
theorem expAt_lt (i : Nat) : expAt i < 256 := Nat.mod_lt _ (by decide)
theorem logAt_lt (i : Nat) : logAt i < 256 := Nat.mod_lt _ (by decide)
theorem tabMul_lt (a b : Nat) : tabMul a b < 256 := by
  unfold tabMul
  cases Nat.beq a 0 <;> cases Nat.beq b 0 <;> simp [expAt_lt]
theorem bitMul_eq {a b : Nat} (ha : a < 256) (hb : b < 256) : bitMul a b = tabMul a b :=
  Nat.eq_of_beq_eq_true (allTo_spec (allTo_spec chk_mul a ha) b hb)
theorem powers {i : Nat} (h : i < 510) : expAt i = powN i := by simpa using allTo_spec chk_powers i h
theorem log_exp {i : Nat} (h : i < 255) : logAt (expAt i) = i := by
  have := allTo_spec chk_exp i h
  simp only [Bool.and_eq_true, beq_iff_eq] at this
  exact this.1.1
theorem exp_again {i : Nat} (h : i < 255) : expAt (i + 255) = expAt i := by
  have := allTo_spec chk_exp i h
  simp only [Bool.and_eq_true, beq_iff_eq] at this
  exact this.1.2
theorem exp_pos {i : Nat} (h : i < 255) : 0 < expAt i := by
  have := allTo_spec chk_exp i h
  simp only [Bool.and_eq_true, decide_eq_true_eq] at this
  exact this.2
theorem exp_log {a : Nat} (h0 : a ≠ 0) (h : a < 256) : expAt (logAt a) = a ∧ logAt a < 255 := by
  have := allTo_spec chk_log a h
  simp only [Bool.or_eq_true, Bool.and_eq_true, decide_eq_true_eq, beq_iff_eq] at this
  rcases this with h | h
  · exact absurd h h0
  · exact h
theorem exp_mod {i : Nat} (h : i < 510) : expAt i = expAt (i % 255) := by
  by_cases h' : i < 255
  · rw [Nat.mod_eq_of_lt h']
  · have : i % 255 = i - 255 := by omega
    rw [this]
    have := exp_again (i := i - 255) (by omega)
    rw [← this]
    congr 1
    omega

instance : Mul F := ⟨fun a b => of (tabMul a.n b.n)⟩
theorem mul_n (a b : F) : (a * b).n = tabMul a.n b.n := n_of (tabMul_lt _ _)
theorem n_zero {a : F} : a.n = 0 ↔ a = 0 := ⟨fun h => n_inj h, fun h => by rw [h]; rfl⟩
theorem n_ne {a : F} (h : a ≠ 0) : a.n ≠ 0 := fun e => h (n_zero.1 e)
theorem n_pos {a : F} (h : a ≠ 0) : 0 < a.n := Nat.pos_of_ne_zero (n_ne h)
def lg (a : F) : Nat := logAt a.n
def ex (i : Nat) : F := of (expAt (i % 255))
theorem lg_lt {a : F} (h : a ≠ 0) : a.lg < 255 := (exp_log (n_ne h) a.n_lt).2
theorem ex_n (i : Nat) : (ex i).n = expAt (i % 255) := n_of (expAt_lt _)
theorem ex_ne (i : Nat) : ex i ≠ 0 := fun h => by
  have := exp_pos (i := i % 255) (by omega)
  rw [← ex_n, h, zero_n] at this
  omega
theorem ex_lg {a : F} (h : a ≠ 0) : ex a.lg = a := n_inj (by
  rw [ex_n, Nat.mod_eq_of_lt (lg_lt h)]
  exact (exp_log (n_ne h) a.n_lt).1)
theorem lg_ex (i : Nat) : (ex i).lg = i % 255 := by
  unfold lg
  rw [ex_n]
  exact log_exp (by omega)
theorem zero_mul (a : F) : 0 * a = 0 := n_inj (by rw [mul_n]; rfl)
theorem mul_zero (a : F) : a * 0 = 0 := n_inj (by rw [mul_n]; unfold tabMul; cases Nat.beq a.n 0 <;> rfl)
theorem mul_eq {a b : F} (ha : a ≠ 0) (hb : b ≠ 0) : a * b = ex (a.lg + b.lg) := n_inj (by
  have h1 := lg_lt ha
  have h2 := lg_lt hb
  rw [mul_n, ex_n, ← exp_mod (by omega)]
  unfold tabMul
  rw [beq_false (n_ne ha), beq_false (n_ne hb)]
  rfl)
theorem mul_ne {a b : F} (ha : a ≠ 0) (hb : b ≠ 0) : a * b ≠ 0 := by rw [mul_eq ha hb]; exact ex_ne _
theorem ex_mul (i j : Nat) : ex i * ex j = ex (i + j) := by
  rw [mul_eq (ex_ne i) (ex_ne j), lg_ex, lg_ex]
  unfold ex
  congr 2
  omega
theorem ex_zero : ex 0 = 1 := by decide +kernel
theorem cases_ex (a : F) : a = 0 ∨ ∃ i, a = ex i := by
  by_cases h : a = 0
  · exact .inl h
  · exact .inr ⟨_, (ex_lg h).symm⟩
theorem mul_comm (a b : F) : a * b = b * a := by
  rcases cases_ex a with rfl | ⟨i, rfl⟩
  · rw [zero_mul, mul_zero]
  rcases cases_ex b with rfl | ⟨j, rfl⟩
  · rw [zero_mul, mul_zero]
  rw [ex_mul, ex_mul, Nat.add_comm]
theorem mul_assoc (a b c : F) : a * b * c = a * (b * c) := by
  rcases cases_ex a with rfl | ⟨i, rfl⟩
  · simp only [zero_mul]
  rcases cases_ex b with rfl | ⟨j, rfl⟩
  · simp only [zero_mul, mul_zero]
  rcases cases_ex c with rfl | ⟨k, rfl⟩
  · simp only [mul_zero]
  simp only [ex_mul, Nat.add_assoc]
theorem one_mul (a : F) : 1 * a = a := by
  rcases cases_ex a with rfl | ⟨i, rfl⟩
  · rw [mul_zero]
  · rw [← ex_zero, ex_mul, Nat.zero_add]
theorem mul_one (a : F) : a * 1 = a := by rw [mul_comm, one_mul]
instance : Std.Associative (α := F) (· * ·) := ⟨mul_assoc⟩
instance : Std.Commutative (α := F) (· * ·) := ⟨mul_comm⟩
theorem mul_eq_zero {a b : F} : a * b = 0 ↔ a = 0 ∨ b = 0 := ⟨fun h => by
  by_cases ha : a = 0
  · exact .inl ha
  by_cases hb : b = 0
  · exact .inr hb
  exact absurd h (mul_ne ha hb), fun h => by
  rcases h with rfl | rfl
  · exact zero_mul _
  · exact mul_zero _⟩

theorem mulN_xor : ∀ (k x b c s t : Nat), mulN k x (b ^^^ c) (s ^^^ t) = mulN k x b s ^^^ mulN k x c t
  | 0, _, _, _, _, _ => rfl
  | k + 1, x, b, c, s, t => by
    simp only [mulN]
    rw [show (b ^^^ c) / 2 = b / 2 ^^^ c / 2 from by simpa [Nat.shiftRight_eq_div_pow] using Nat.shiftRight_xor_distrib (a := b) (b := c) (i := 1)]
    rw [← mulN_xor]
    congr 1
    rw [show (b ^^^ c) % 2 = (b % 2 ^^^ c % 2) from by simpa using Nat.xor_mod_two_pow (a := b) (b := c) (n := 1)]
    rcases Nat.mod_two_eq_zero_or_one b with hb | hb <;> rcases Nat.mod_two_eq_zero_or_one c with hc | hc <;> rw [hb, hc] <;> simp [Nat.beq]
    · ac_rfl
    · ac_rfl
    · rw [show s ^^^ x ^^^ (t ^^^ x) = s ^^^ t ^^^ (x ^^^ x) from by ac_rfl, Nat.xor_self, Nat.xor_zero]
theorem mul_add (a b c : F) : a * (b + c) = a * b + a * c := n_inj (by
  rw [add_n, mul_n, mul_n, mul_n, ← bitMul_eq a.n_lt b.n_lt, ← bitMul_eq a.n_lt c.n_lt, ← bitMul_eq a.n_lt (b + c).n_lt, add_n]
  exact mulN_xor 8 a.n b.n c.n 0 0)
theorem add_mul (a b c : F) : (a + b) * c = a * c + b * c := by rw [mul_comm, mul_add, mul_comm c a, mul_comm c b]

def inv (a : F) : F := if a = 0 then 0 else ex (255 - a.lg)
theorem mul_inv {a : F} (h : a ≠ 0) : a * inv a = 1 := by
  unfold inv
  rw [if_neg h]
  have := lg_lt h
  conv => lhs; lhs; rw [← ex_lg h]
  rw [ex_mul, ← ex_zero]
  unfold ex
  congr 2
  omega
theorem inv_zero : inv 0 = 0 := rfl
theorem inv_ne {a : F} (h : a ≠ 0) : inv a ≠ 0 := by unfold inv; rw [if_neg h]; exact ex_ne _
theorem inv_mul {a : F} (h : a ≠ 0) : inv a * a = 1 := by rw [mul_comm, mul_inv h]
theorem one_ne : (1 : F) ≠ 0 := by decide
theorem mul_cancel {a b c : F} (h : a ≠ 0) (e : a * b = a * c) : b = c := by
  have := congrArg (inv a * ·) e
  simpa only [← mul_assoc, inv_mul h, one_mul] using this
theorem eq_inv {a b : F} (e : a * b = 1) : b = inv a := by
  have h : a ≠ 0 := fun h => by rw [h, zero_mul] at e; exact one_ne e.symm
  exact mul_cancel h (e.trans (mul_inv h).symm)

def pw (a : F) : Nat → F
  | 0 => 1
  | k + 1 => a * pw a k
theorem pw_add (a : F) (i j : Nat) : pw a (i + j) = pw a i * pw a j := by
  induction i with
  | zero => rw [Nat.zero_add]; exact (one_mul _).symm
  | succ i ih => rw [show i + 1 + j = i + j + 1 from by omega]; show a * pw a (i + j) = a * pw a i * pw a j; rw [ih, mul_assoc]
theorem pw_ex (i k : Nat) : pw (ex i) k = ex (i * k) := by
  induction k with
  | zero => exact ex_zero.symm
  | succ k ih => show ex i * pw (ex i) k = _; rw [ih, ex_mul, Nat.mul_succ, Nat.add_comm]
theorem pw_zero_succ (k : Nat) : pw 0 (k + 1) = 0 := zero_mul _
def pwZ (a : F) (k : Int) : F := if 0 ≤ k then pw a k.toNat else pw (inv a) (-k).toNat
theorem pwZ_nat (a : F) (k : Nat) : pwZ a k = pw a k := by unfold pwZ; rw [if_pos (by omega), Int.toNat_natCast]
theorem pwZ_zero_k (a : F) : pwZ a 0 = 1 := rfl
theorem pwZ_zero {k : Int} (h : k ≠ 0) : pwZ 0 k = 0 := by
  unfold pwZ
  split
  · obtain ⟨m, hm⟩ : ∃ m, k.toNat = m + 1 := ⟨k.toNat - 1, by omega⟩
    rw [hm, pw_zero_succ]
  · obtain ⟨m, hm⟩ : ∃ m, (-k).toNat = m + 1 := ⟨(-k).toNat - 1, by omega⟩
    rw [hm, inv_zero, pw_zero_succ]
theorem ex_eq {i j : Nat} (h : i % 255 = j % 255) : ex i = ex j := by unfold ex; rw [h]
theorem mul_emod_254 (i m : Nat) : (255 - i) * m % 255 = ((-(i : Int) * m) % 255).toNat ∨ 255 < i := by
  by_cases h : 255 < i
  · exact .inr h
  left
  have h1 : (((255 - i) * m : Nat) : Int) = (255 - (i : Int)) * m := by rw [Int.natCast_mul]; congr 1; omega
  have h2 : (255 - (i : Int)) * m = -(i : Int) * m + 255 * m := by rw [← Int.add_mul]; congr 1; omega
  have h3 : ((-(i : Int) * m) + 255 * (m : Int)) % 255 = (-(i : Int) * m) % 255 := Int.add_mul_emod_self_left ..
  omega
/-- A power by the logarithm. -/
theorem pwZ_lg {a : F} (h : a ≠ 0) (k : Int) : pwZ a k = ex (((a.lg : Int) * k) % 255).toNat := by
  have hl := lg_lt h
  unfold pwZ
  split
  · rename_i hk
    obtain ⟨m, rfl⟩ := Int.eq_ofNat_of_zero_le hk
    rw [Int.toNat_natCast]
    conv => lhs; rw [← ex_lg h]
    rw [pw_ex]
    apply ex_eq
    have : ((a.lg * m : Nat) : Int) = (a.lg : Int) * m := Int.natCast_mul ..
    omega
  · rename_i hk
    obtain ⟨m, hm⟩ : ∃ m : Nat, k = -(m : Int) := ⟨(-k).toNat, by omega⟩
    subst hm
    rw [show (-(-(m : Int))).toNat = m from by omega]
    unfold inv
    rw [if_neg h, pw_ex]
    apply ex_eq
    rcases mul_emod_254 a.lg m with h1 | h1
    · rw [h1, show (a.lg : Int) * -(m : Int) = -(a.lg : Int) * m from by rw [Int.mul_neg, Int.neg_mul]]
      omega
    · omega
theorem pwZ_add {a : F} (h : a ≠ 0) (j k : Int) : pwZ a j * pwZ a k = pwZ a (j + k) := by
  rw [pwZ_lg h, pwZ_lg h, pwZ_lg h, ex_mul]
  apply ex_eq
  have e : (a.lg : Int) * (j + k) = (a.lg : Int) * j + (a.lg : Int) * k := Int.mul_add ..
  rw [e]
  generalize (a.lg : Int) * j = u
  generalize (a.lg : Int) * k = v
  omega
theorem pw_ne {a : F} (h : a ≠ 0) (k : Nat) : pw a k ≠ 0 := by rw [← ex_lg h, pw_ex]; exact ex_ne _
theorem ex_period (i k : Nat) : ex (i + 255 * k) = ex i := by unfold ex; congr 2; omega
end F
end Go.Proofs.Sh
