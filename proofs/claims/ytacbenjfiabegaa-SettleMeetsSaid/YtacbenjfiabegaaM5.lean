/- Several texts of this seat, one behind the other. -/

/-! Plain arithmetic of bytes: no Go in sight. -/
namespace Go.Proofs.Sh

/-- A byte, as an element of the field. -/
structure F where
  v : BitVec 8
  deriving DecidableEq

namespace F
theorem ext' {a b : F} (h : a.v = b.v) : a = b := by cases a; cases b; cases h; rfl
def n (a : F) : Nat := a.v.toNat
def of (k : Nat) : F := ⟨BitVec.ofNat 8 k⟩
theorem n_lt (a : F) : a.n < 256 := a.v.isLt
theorem n_of {k : Nat} (h : k < 256) : (of k).n = k := by
  simp [n, of, BitVec.toNat_ofNat]; omega
theorem of_n (a : F) : of a.n = a := ext' (by simp [n, of])
theorem n_inj {a b : F} (h : a.n = b.n) : a = b := ext' (BitVec.eq_of_toNat_eq h)
theorem n_inj_iff {a b : F} : a.n = b.n ↔ a = b := ⟨n_inj, fun h => h ▸ rfl⟩
instance : Zero F := ⟨⟨0⟩⟩
instance : One F := ⟨⟨1⟩⟩
instance : Add F := ⟨fun a b => ⟨a.v ^^^ b.v⟩⟩
theorem zero_n : (0 : F).n = 0 := rfl
theorem one_n : (1 : F).n = 1 := rfl
theorem add_n (a b : F) : (a + b).n = a.n ^^^ b.n := by
  show (a.v ^^^ b.v).toNat = _
  rw [BitVec.toNat_xor]; rfl
theorem add_comm (a b : F) : a + b = b + a := ext' (BitVec.xor_comm ..)
theorem add_assoc (a b c : F) : a + b + c = a + (b + c) := ext' (BitVec.xor_assoc ..)
theorem add_self (a : F) : a + a = 0 := ext' BitVec.xor_self
theorem add_zero (a : F) : a + 0 = a := ext' BitVec.xor_zero
theorem zero_add (a : F) : 0 + a = a := ext' BitVec.zero_xor
instance : Std.Associative (α := F) (· + ·) := ⟨add_assoc⟩
instance : Std.Commutative (α := F) (· + ·) := ⟨add_comm⟩
theorem add_cancel {a b c : F} (h : a + b = a + c) : b = c := by
  have := congrArg (a + ·) h
  simpa [← add_assoc, add_self, zero_add] using this
theorem add_eq_zero {a b : F} : a + b = 0 ↔ a = b := ⟨fun h => by
  have := congrArg (· + b) h
  simpa [add_assoc, add_self, add_zero, zero_add] using this, fun h => by rw [h, add_self]⟩

/-- The reference's product, on numbers: k rounds to go. -/
def mulN : Nat → Nat → Nat → Nat → Nat
  | 0, _, _, s => s
  | k + 1, x, b, s => mulN k (bif Nat.ble (x * 2) 255 then x * 2 else (x * 2) ^^^ 283) (b / 2) (bif Nat.beq (b % 2) 1 then s ^^^ x else s)
def xtN (x : Nat) : Nat := if 255 < x * 2 then (x * 2) ^^^ 283 else x * 2
def bitMul (a b : Nat) : Nat := mulN 8 a b 0

/-- 3 to the i. -/
def powN : Nat → Nat
  | 0 => 1
  | i + 1 => let x := powN i; let y := x ^^^ (x * 2); if 255 < y then y ^^^ 283 else y
/-- The powers of 3, 510 of them, and the places of the bytes among them, 8 bits each. -/
def expLit : Nat := 0xf652c7b46c241cfda297847cdd4b39170df2a794858a8f8c8d7b29ee5a36120ef351c6423ee3a891868b79de4acf45ca46cbb099772d1b0907f4a563211ffc54c543c8b16f25eaaf6523e858c1b69b80898e7adfbc9d827e2aefac64d5ba9f75dabf9c742ced5bc040c9473de25ec3413f15fa5632e75dc2b76dd24e3a16fba06020e9ae93712fecad92877d2b19fea361d6bb69271d0bf0503010f957c4b59a76db49ceb398817fdcbd6bd0b99e838878281808f1a662d74d3be0a967d44ccdb26ed3b868d14fcc443c140c04f55331e6ab9070d9be6a26eb5937e45c34e5aa66221e0a0602f7a49573d84838e15f3513f8a196722e1aff5533110f050301f652c7b46c241cfda297847cdd4b39170df2a794858a8f8c8d7b29ee5a36120ef351c6423ee3a891868b79de4acf45ca46cbb099772d1b0907f4a563211ffc54c543c8b16f25eaaf6523e858c1b69b80898e7adfbc9d827e2aefac64d5ba9f75dabf9c742ced5bc040c9473de25ec3413f15fa5632e75dc2b76dd24e3a16fba06020e9ae93712fecad92877d2b19fea361d6bb69271d0bf0503010f957c4b59a76db49ceb398817fdcbd6bd0b99e838878281808f1a662d74d3be0a967d44ccdb26ed3b868d14fcc443c140c04f55331e6ab9070d9be6a26eb5937e45c34e5aa66221e0a0602f7a49573d84838e15f3513f8a196722e1aff5533110f050301
def logLit : Nat := 0x770f7c0808c630d18fe31c5deed4a67a5e3997726b87cb4892e2023d9921144abd3f2565d9e2a14476da2413c843953d15b3f37cdcf95bcfcdcbe619087b2979d2955aa6ca1523b86b160fb5a3ebbccb77b76a42d1f43d8ec49c4176ff60c7fa051a99cb05fcb59f50b16eb7a75d72ce8ade6e7d5e9ae4f74d6eaf450a858af57a773f3e5acd44eca5e9f9b150a792bba3d85fa54286b3a421eb6a3c3486e7e1091882298e225b3628b06bf30fddd6638834640f1d25c1394ced036bddb8f968eda93354582f01224e10f21058a2f657809c99a72a6e44d6a27b9f9b51dc27dc11c69f8c808714cef818d340ee0046403dfee33681bc74bc61a023201190000
def expAt (i : Nat) : Nat := (expLit >>> (8 * i)) % 256
def logAt (i : Nat) : Nat := (logLit >>> (8 * i)) % 256
def tabMul (a b : Nat) : Nat := bif Nat.beq a 0 then 0 else bif Nat.beq b 0 then 0 else expAt (logAt a + logAt b)
def allTo : Nat → (Nat → Bool) → Bool
  | 0, _ => true
  | k + 1, f => f k && allTo k f
theorem allTo_spec {f : Nat → Bool} : ∀ {k : Nat}, allTo k f = true → ∀ i, i < k → f i = true
  | 0, _, i, hi => absurd hi (Nat.not_lt_zero _)
  | k + 1, h, i, hi => by
    simp only [allTo, Bool.and_eq_true] at h
    rcases Nat.lt_succ_iff_lt_or_eq.1 hi with hi | rfl
    · exact allTo_spec h.2 i hi
    · exact h.1
theorem chk_mul : allTo 256 (fun a => allTo 256 (fun b => Nat.beq (bitMul a b) (tabMul a b))) = true := by decide +kernel
theorem chk_powers : allTo 510 (fun i => expAt i == powN i) = true := by decide +kernel
theorem chk_exp : allTo 255 (fun i => logAt (expAt i) == i && expAt (i + 255) == expAt i && decide (0 < expAt i)) = true := by decide +kernel
theorem chk_log : allTo 256 (fun a => a == 0 || (expAt (logAt a) == a && decide (logAt a < 255))) = true := by decide +kernel
end F
end Go.Proofs.Sh

/- Bytes are a field: plain, no Go in sight. -/
namespace Go.Proofs.Sh
namespace F
theorem beq_false {a b : Nat} (h : a ≠ b) : Nat.beq a b = false := by
  cases e : Nat.beq a b
  · rfl
  · exact absurd (Nat.eq_of_beq_eq_true e) h
theorem expAt_lt (i : Nat) : expAt i < 256 := Nat.mod_lt _ (by decide)
theorem logAt_lt (i : Nat) : logAt i < 256 := Nat.mod_lt _ (by decide)
theorem tabMul_lt (a b : Nat) : tabMul a b < 256 := by
  unfold tabMul
  cases Nat.beq a 0 <;> cases Nat.beq b 0 <;> simp [expAt_lt]
theorem bitMul_eq {a b : Nat} (ha : a < 256) (hb : b < 256) : bitMul a b = tabMul a b :=
  Nat.eq_of_beq_eq_true (allTo_spec (allTo_spec chk_mul a ha) b hb)
theorem powers {i : Nat} (h : i < 510) : expAt i = powN i := by simpa using allTo_spec chk_powers i h
theorem log_exp {i : Nat} (h : i < 255) : logAt (expAt i) = i := by
  have := allTo_spec chk_exp i h
  simp only [Bool.and_eq_true, beq_iff_eq] at this
  exact this.1.1
theorem exp_again {i : Nat} (h : i < 255) : expAt (i + 255) = expAt i := by
  have := allTo_spec chk_exp i h
  simp only [Bool.and_eq_true, beq_iff_eq] at this
  exact this.1.2
theorem exp_pos {i : Nat} (h : i < 255) : 0 < expAt i := by
  have := allTo_spec chk_exp i h
  simp only [Bool.and_eq_true, decide_eq_true_eq] at this
  exact this.2
theorem exp_log {a : Nat} (h0 : a ≠ 0) (h : a < 256) : expAt (logAt a) = a ∧ logAt a < 255 := by
  have := allTo_spec chk_log a h
  simp only [Bool.or_eq_true, Bool.and_eq_true, decide_eq_true_eq, beq_iff_eq] at this
  rcases this with h | h
  · exact absurd h h0
  · exact h
theorem exp_mod {i : Nat} (h : i < 510) : expAt i = expAt (i % 255) := by
  by_cases h' : i < 255
  · rw [Nat.mod_eq_of_lt h']
  · have : i % 255 = i - 255 := by omega
    rw [this]
    have := exp_again (i := i - 255) (by omega)
    rw [← this]
    congr 1
    omega

instance : Mul F := ⟨fun a b => of (tabMul a.n b.n)⟩
theorem mul_n (a b : F) : (a * b).n = tabMul a.n b.n := n_of (tabMul_lt _ _)
theorem n_zero {a : F} : a.n = 0 ↔ a = 0 := ⟨fun h => n_inj h, fun h => by rw [h]; rfl⟩
theorem n_ne {a : F} (h : a ≠ 0) : a.n ≠ 0 := fun e => h (n_zero.1 e)
theorem n_pos {a : F} (h : a ≠ 0) : 0 < a.n := Nat.pos_of_ne_zero (n_ne h)
def lg (a : F) : Nat := logAt a.n
def ex (i : Nat) : F := of (expAt (i % 255))
theorem lg_lt {a : F} (h : a ≠ 0) : a.lg < 255 := (exp_log (n_ne h) a.n_lt).2
theorem ex_n (i : Nat) : (ex i).n = expAt (i % 255) := n_of (expAt_lt _)
theorem ex_ne (i : Nat) : ex i ≠ 0 := fun h => by
  have := exp_pos (i := i % 255) (by omega)
  rw [← ex_n, h, zero_n] at this
  omega
theorem ex_lg {a : F} (h : a ≠ 0) : ex a.lg = a := n_inj (by
  rw [ex_n, Nat.mod_eq_of_lt (lg_lt h)]
  exact (exp_log (n_ne h) a.n_lt).1)
theorem lg_ex (i : Nat) : (ex i).lg = i % 255 := by
  unfold lg
  rw [ex_n]
  exact log_exp (by omega)
theorem zero_mul (a : F) : 0 * a = 0 := n_inj (by rw [mul_n]; rfl)
theorem mul_zero (a : F) : a * 0 = 0 := n_inj (by rw [mul_n]; unfold tabMul; cases Nat.beq a.n 0 <;> rfl)
theorem mul_eq {a b : F} (ha : a ≠ 0) (hb : b ≠ 0) : a * b = ex (a.lg + b.lg) := n_inj (by
  have h1 := lg_lt ha
  have h2 := lg_lt hb
  rw [mul_n, ex_n, ← exp_mod (by omega)]
  unfold tabMul
  rw [beq_false (n_ne ha), beq_false (n_ne hb)]
  rfl)
theorem mul_ne {a b : F} (ha : a ≠ 0) (hb : b ≠ 0) : a * b ≠ 0 := by rw [mul_eq ha hb]; exact ex_ne _
theorem ex_mul (i j : Nat) : ex i * ex j = ex (i + j) := by
  rw [mul_eq (ex_ne i) (ex_ne j), lg_ex, lg_ex]
  unfold ex
  congr 2
  omega
theorem ex_zero : ex 0 = 1 := by decide +kernel
theorem cases_ex (a : F) : a = 0 ∨ ∃ i, a = ex i := by
  by_cases h : a = 0
  · exact .inl h
  · exact .inr ⟨_, (ex_lg h).symm⟩
theorem mul_comm (a b : F) : a * b = b * a := by
  rcases cases_ex a with rfl | ⟨i, rfl⟩
  · rw [zero_mul, mul_zero]
  rcases cases_ex b with rfl | ⟨j, rfl⟩
  · rw [zero_mul, mul_zero]
  rw [ex_mul, ex_mul, Nat.add_comm]
theorem mul_assoc (a b c : F) : a * b * c = a * (b * c) := by
  rcases cases_ex a with rfl | ⟨i, rfl⟩
  · simp only [zero_mul]
  rcases cases_ex b with rfl | ⟨j, rfl⟩
  · simp only [zero_mul, mul_zero]
  rcases cases_ex c with rfl | ⟨k, rfl⟩
  · simp only [mul_zero]
  simp only [ex_mul, Nat.add_assoc]
theorem one_mul (a : F) : 1 * a = a := by
  rcases cases_ex a with rfl | ⟨i, rfl⟩
  · rw [mul_zero]
  · rw [← ex_zero, ex_mul, Nat.zero_add]
theorem mul_one (a : F) : a * 1 = a := by rw [mul_comm, one_mul]
instance : Std.Associative (α := F) (· * ·) := ⟨mul_assoc⟩
instance : Std.Commutative (α := F) (· * ·) := ⟨mul_comm⟩
theorem mul_eq_zero {a b : F} : a * b = 0 ↔ a = 0 ∨ b = 0 := ⟨fun h => by
  by_cases ha : a = 0
  · exact .inl ha
  by_cases hb : b = 0
  · exact .inr hb
  exact absurd h (mul_ne ha hb), fun h => by
  rcases h with rfl | rfl
  · exact zero_mul _
  · exact mul_zero _⟩

theorem mulN_xor : ∀ (k x b c s t : Nat), mulN k x (b ^^^ c) (s ^^^ t) = mulN k x b s ^^^ mulN k x c t
  | 0, _, _, _, _, _ => rfl
  | k + 1, x, b, c, s, t => by
    simp only [mulN]
    rw [show (b ^^^ c) / 2 = b / 2 ^^^ c / 2 from by simpa [Nat.shiftRight_eq_div_pow] using Nat.shiftRight_xor_distrib (a := b) (b := c) (i := 1)]
    rw [← mulN_xor]
    congr 1
    rw [show (b ^^^ c) % 2 = (b % 2 ^^^ c % 2) from by simpa using Nat.xor_mod_two_pow (a := b) (b := c) (n := 1)]
    rcases Nat.mod_two_eq_zero_or_one b with hb | hb <;> rcases Nat.mod_two_eq_zero_or_one c with hc | hc <;> rw [hb, hc] <;> simp [Nat.beq]
    · ac_rfl
    · ac_rfl
    · rw [show s ^^^ x ^^^ (t ^^^ x) = s ^^^ t ^^^ (x ^^^ x) from by ac_rfl, Nat.xor_self, Nat.xor_zero]
theorem mul_add (a b c : F) : a * (b + c) = a * b + a * c := n_inj (by
  rw [add_n, mul_n, mul_n, mul_n, ← bitMul_eq a.n_lt b.n_lt, ← bitMul_eq a.n_lt c.n_lt, ← bitMul_eq a.n_lt (b + c).n_lt, add_n]
  exact mulN_xor 8 a.n b.n c.n 0 0)
theorem add_mul (a b c : F) : (a + b) * c = a * c + b * c := by rw [mul_comm, mul_add, mul_comm c a, mul_comm c b]

def inv (a : F) : F := if a = 0 then 0 else ex (255 - a.lg)
theorem mul_inv {a : F} (h : a ≠ 0) : a * inv a = 1 := by
  unfold inv
  rw [if_neg h]
  have := lg_lt h
  conv => lhs; lhs; rw [← ex_lg h]
  rw [ex_mul, ← ex_zero]
  unfold ex
  congr 2
  omega
theorem inv_zero : inv 0 = 0 := rfl
theorem inv_ne {a : F} (h : a ≠ 0) : inv a ≠ 0 := by unfold inv; rw [if_neg h]; exact ex_ne _
theorem inv_mul {a : F} (h : a ≠ 0) : inv a * a = 1 := by rw [mul_comm, mul_inv h]
theorem one_ne : (1 : F) ≠ 0 := by decide
theorem mul_cancel {a b c : F} (h : a ≠ 0) (e : a * b = a * c) : b = c := by
  have := congrArg (inv a * ·) e
  simpa only [← mul_assoc, inv_mul h, one_mul] using this
theorem eq_inv {a b : F} (e : a * b = 1) : b = inv a := by
  have h : a ≠ 0 := fun h => by rw [h, zero_mul] at e; exact one_ne e.symm
  exact mul_cancel h (e.trans (mul_inv h).symm)

def pw (a : F) : Nat → F
  | 0 => 1
  | k + 1 => a * pw a k
theorem pw_add (a : F) (i j : Nat) : pw a (i + j) = pw a i * pw a j := by
  induction i with
  | zero => rw [Nat.zero_add]; exact (one_mul _).symm
  | succ i ih => rw [show i + 1 + j = i + j + 1 from by omega]; show a * pw a (i + j) = a * pw a i * pw a j; rw [ih, mul_assoc]
theorem pw_ex (i k : Nat) : pw (ex i) k = ex (i * k) := by
  induction k with
  | zero => exact ex_zero.symm
  | succ k ih => show ex i * pw (ex i) k = _; rw [ih, ex_mul, Nat.mul_succ, Nat.add_comm]
theorem pw_zero_succ (k : Nat) : pw 0 (k + 1) = 0 := zero_mul _
def pwZ (a : F) (k : Int) : F := if 0 ≤ k then pw a k.toNat else pw (inv a) (-k).toNat
theorem pwZ_nat (a : F) (k : Nat) : pwZ a k = pw a k := by unfold pwZ; rw [if_pos (by omega), Int.toNat_natCast]
theorem pwZ_zero_k (a : F) : pwZ a 0 = 1 := rfl
theorem pwZ_zero {k : Int} (h : k ≠ 0) : pwZ 0 k = 0 := by
  unfold pwZ
  split
  · obtain ⟨m, hm⟩ : ∃ m, k.toNat = m + 1 := ⟨k.toNat - 1, by omega⟩
    rw [hm, pw_zero_succ]
  · obtain ⟨m, hm⟩ : ∃ m, (-k).toNat = m + 1 := ⟨(-k).toNat - 1, by omega⟩
    rw [hm, inv_zero, pw_zero_succ]
theorem ex_eq {i j : Nat} (h : i % 255 = j % 255) : ex i = ex j := by unfold ex; rw [h]
theorem mul_emod_254 (i m : Nat) : (255 - i) * m % 255 = ((-(i : Int) * m) % 255).toNat ∨ 255 < i := by
  by_cases h : 255 < i
  · exact .inr h
  left
  have h1 : (((255 - i) * m : Nat) : Int) = (255 - (i : Int)) * m := by rw [Int.natCast_mul]; congr 1; omega
  have h2 : (255 - (i : Int)) * m = -(i : Int) * m + 255 * m := by rw [← Int.add_mul]; congr 1; omega
  have h3 : ((-(i : Int) * m) + 255 * (m : Int)) % 255 = (-(i : Int) * m) % 255 := Int.add_mul_emod_self_left ..
  omega
/-- A power by the logarithm. -/
theorem pwZ_lg {a : F} (h : a ≠ 0) (k : Int) : pwZ a k = ex (((a.lg : Int) * k) % 255).toNat := by
  have hl := lg_lt h
  unfold pwZ
  split
  · rename_i hk
    obtain ⟨m, rfl⟩ := Int.eq_ofNat_of_zero_le hk
    rw [Int.toNat_natCast]
    conv => lhs; rw [← ex_lg h]
    rw [pw_ex]
    apply ex_eq
    have : ((a.lg * m : Nat) : Int) = (a.lg : Int) * m := Int.natCast_mul ..
    omega
  · rename_i hk
    obtain ⟨m, hm⟩ : ∃ m : Nat, k = -(m : Int) := ⟨(-k).toNat, by omega⟩
    subst hm
    rw [show (-(-(m : Int))).toNat = m from by omega]
    unfold inv
    rw [if_neg h, pw_ex]
    apply ex_eq
    rcases mul_emod_254 a.lg m with h1 | h1
    · rw [h1, show (a.lg : Int) * -(m : Int) = -(a.lg : Int) * m from by rw [Int.mul_neg, Int.neg_mul]]
      omega
    · omega
theorem pwZ_add {a : F} (h : a ≠ 0) (j k : Int) : pwZ a j * pwZ a k = pwZ a (j + k) := by
  rw [pwZ_lg h, pwZ_lg h, pwZ_lg h, ex_mul]
  apply ex_eq
  have e : (a.lg : Int) * (j + k) = (a.lg : Int) * j + (a.lg : Int) * k := Int.mul_add ..
  rw [e]
  generalize (a.lg : Int) * j = u
  generalize (a.lg : Int) * k = v
  omega
theorem pw_ne {a : F} (h : a ≠ 0) (k : Nat) : pw a k ≠ 0 := by rw [← ex_lg h, pw_ex]; exact ex_ne _
theorem ex_period (i k : Nat) : ex (i + 255 * k) = ex i := by unfold ex; congr 2; omega
end F
end Go.Proofs.Sh

/- Lists of bytes: sums of products, polynomials. Plain, no Go in sight. -/
namespace Go.Proofs.Sh
open F

/-- The sum of the products. -/
def dot : List F → List F → F
  | a :: l, b :: m => a * b + dot l m
  | _, _ => 0
theorem dot_nil_r (l : List F) : dot l [] = 0 := by cases l <;> rfl
theorem dot_append : ∀ (l m l' m' : List F), l.length = m.length → dot (l ++ l') (m ++ m') = dot l m + dot l' m'
  | [], [], _, _, _ => by simp [dot, F.zero_add]
  | a :: l, b :: m, l', m', h => by
    simp only [List.cons_append, dot]
    rw [dot_append l m l' m' (by simpa using h), F.add_assoc]
theorem dot_take (l m : List F) (k : Nat) (h1 : k < l.length) (h2 : k < m.length) : dot (l.take (k + 1)) (m.take (k + 1)) = dot (l.take k) (m.take k) + l.getD k 0 * m.getD k 0 := by
  rw [List.take_succ_eq_append_getElem h1, List.take_succ_eq_append_getElem h2, dot_append _ _ _ _ (by simp; omega)]
  simp [dot, F.add_zero, List.getD_eq_getElem?_getD, h1, h2]
theorem dot_take_min : ∀ (l m : List F) (k : Nat), (l.length ≤ k ∨ m.length ≤ k) → dot (l.take k) (m.take k) = dot l m
  | [], m, k, _ => by simp [dot]
  | a :: l, [], k, _ => by simp [dot_nil_r]
  | a :: l, b :: m, 0, h => by simp at h
  | a :: l, b :: m, k + 1, h => by
    simp only [List.take_succ_cons, dot]
    rw [dot_take_min l m k (by simpa using h)]
end Go.Proofs.Sh

/- Plans: plain, no Go in sight. -/
namespace Go.Proofs.Sh
/-- A plan: how many custodians, how many may be seen, how many bytes a stripe has, how many must hold what counts; slots; ticks. -/
structure Pl where
  N : Int
  T : Int
  L : Int
  W : Int
  S : Int
  R : Int
/-- A plan that may be. -/
structure Pl.Ok (p : Pl) : Prop where
  t : 1 ≤ p.T
  l : 1 ≤ p.L
  tl : p.T + p.L ≤ p.W
  wn : p.W ≤ p.N
  nl : p.N + p.L ≤ 256
  s1 : 1 ≤ p.S
  s2 : p.S ≤ 256
  r1 : 1 ≤ p.R
  r2 : p.R ≤ 64
/-- Its numbers are ints. -/
structure Pl.In (p : Pl) : Prop where
  n : -9223372036854775808 ≤ p.N ∧ p.N ≤ 9223372036854775807
  t : -9223372036854775808 ≤ p.T ∧ p.T ≤ 9223372036854775807
  l : -9223372036854775808 ≤ p.L ∧ p.L ≤ 9223372036854775807
  w : -9223372036854775808 ≤ p.W ∧ p.W ≤ 9223372036854775807
  s : -9223372036854775808 ≤ p.S ∧ p.S ≤ 9223372036854775807
  r : -9223372036854775808 ≤ p.R ∧ p.R ≤ 9223372036854775807
theorem Pl.ok_iff (p : Pl) : p.Ok ↔ (1 ≤ p.T ∧ 1 ≤ p.L ∧ p.T + p.L ≤ p.W ∧ p.W ≤ p.N ∧ p.N + p.L ≤ 256 ∧ 1 ≤ p.S ∧ p.S ≤ 256 ∧ 1 ≤ p.R ∧ p.R ≤ 64) :=
  ⟨fun h => ⟨h.t, h.l, h.tl, h.wn, h.nl, h.s1, h.s2, h.r1, h.r2⟩, fun ⟨a, b, c, d, e, f, g, h, i⟩ => ⟨a, b, c, d, e, f, g, h, i⟩⟩
/-- A custodian's point. -/
def point (i : Int) : F := if 1 ≤ i ∧ i ≤ 256 then F.of (i - 1).toNat else 0
/-- The points of a stripe's bytes; all custodians. -/
def secretsAt (p : Pl) : List F := (List.range p.L.toNat).map fun i => F.of (p.N.toNat + i)
def allOf (p : Pl) : List Int := (List.range p.N.toNat).map fun i => ((i + 1 : Nat) : Int)
/-- How many stripes so many bytes need. -/
def stripesOf (p : Pl) (size : Int) : Int := if 1 ≤ size ∧ size ≤ 240 then (size + p.L - 1) / p.L else 0

theorem F_of_inj {i j : Nat} (hi : i < 256) (hj : j < 256) (h : F.of i = F.of j) : i = j := by rw [← F.n_of hi, ← F.n_of hj, h]
theorem points_all (p : Pl) (h : p.Ok) : (allOf p).map point = (List.range p.N.toNat).map F.of := by
  unfold allOf
  rw [List.map_map]
  apply List.map_congr_left
  intro i hi
  have hi' : i < p.N.toNat := List.mem_range.1 hi
  have h1 := h.nl
  have h2 := h.l
  show point ((i + 1 : Nat) : Int) = F.of i
  unfold point
  rw [if_pos (by omega)]
  congr 1
  omega
theorem points_secrets (p : Pl) (h : p.Ok) : (allOf p).map point ++ secretsAt p = (List.range (p.N.toNat + p.L.toNat)).map F.of := by
  rw [points_all p h, List.range_add, List.map_append, List.map_map]
  rfl
theorem nodup_map_of (n : Nat) (h : n ≤ 256) : ((List.range n).map F.of).Nodup := by
  rw [List.nodup_iff_pairwise_ne, List.pairwise_map]
  refine List.Pairwise.imp_of_mem ?_ (List.nodup_iff_pairwise_ne.1 List.nodup_range)
  intro a b ha hb hab e
  exact hab (F_of_inj (by have := List.mem_range.1 ha; omega) (by have := List.mem_range.1 hb; omega) e)
theorem points_unlike (p : Pl) (h : p.Ok) : ((allOf p).map point ++ secretsAt p).Nodup := by
  rw [points_secrets p h]
  exact nodup_map_of _ (by have := h.nl; have := h.l; have := h.tl; have := h.wn; have := h.t; omega)
theorem secrets_len (p : Pl) : (secretsAt p).length = p.L.toNat := by simp [secretsAt]
theorem all_len (p : Pl) : (allOf p).length = p.N.toNat := by simp [allOf]
end Go.Proofs.Sh

/- Plain: finite sums, polynomials as lists of bytes. -/
namespace Go.Proofs.Sh
namespace F
/-- The sum of f 0 .. f (n - 1). -/
def sm : Nat → (Nat → F) → F
  | 0, _ => 0
  | n + 1, f => sm n f + f n
theorem sm_succ (n : Nat) (f : Nat → F) : sm (n + 1) f = sm n f + f n := rfl
theorem sm_congr {n : Nat} {f g : Nat → F} (h : ∀ i, i < n → f i = g i) : sm n f = sm n g := by
  induction n with
  | zero => rfl
  | succ n ih => rw [sm_succ, sm_succ, ih (fun i hi => h i (by omega)), h n (by omega)]
theorem sm_zero {n : Nat} {f : Nat → F} (h : ∀ i, i < n → f i = 0) : sm n f = 0 := by
  induction n with
  | zero => rfl
  | succ n ih => rw [sm_succ, ih (fun i hi => h i (by omega)), h n (by omega), add_zero]
theorem add4 (a b c d : F) : a + b + (c + d) = a + c + (b + d) := by
  rw [add_assoc, add_assoc, ← add_assoc b c d, add_comm b c, add_assoc c b d]
theorem sm_add (n : Nat) (f g : Nat → F) : sm n (fun i => f i + g i) = sm n f + sm n g := by
  induction n with
  | zero => exact (add_zero 0).symm
  | succ n ih => rw [sm_succ, sm_succ, sm_succ, ih, add4]
theorem mul_sm (n : Nat) (c : F) (f : Nat → F) : c * sm n f = sm n (fun i => c * f i) := by
  induction n with
  | zero => exact mul_zero c
  | succ n ih => rw [sm_succ, sm_succ, mul_add, ih]
theorem sm_mul (n : Nat) (c : F) (f : Nat → F) : sm n f * c = sm n (fun i => f i * c) := by
  rw [mul_comm, mul_sm]
  exact sm_congr fun i _ => mul_comm _ _
theorem sm_first (n : Nat) (f : Nat → F) : sm (n + 1) f = f 0 + sm n (fun i => f (i + 1)) := by
  induction n with
  | zero => show (0 : F) + f 0 = f 0 + 0; rw [zero_add, add_zero]
  | succ n ih => rw [sm_succ, ih, sm_succ, add_assoc]
theorem sm_swap (n m : Nat) (f : Nat → Nat → F) : sm n (fun i => sm m (f i)) = sm m (fun j => sm n (fun i => f i j)) := by
  induction n with
  | zero => exact (sm_zero (fun _ _ => rfl)).symm
  | succ n ih => rw [sm_succ, ih, ← sm_add]; exact sm_congr fun j _ => rfl
theorem sm_one {n : Nat} {f : Nat → F} (k : Nat) (hk : k < n) (h : ∀ i, i < n → i ≠ k → f i = 0) : sm n f = f k := by
  induction n with
  | zero => omega
  | succ n ih =>
    rw [sm_succ]
    by_cases e : k = n
    · subst e
      rw [sm_zero (fun i hi => h i (by omega) (by omega)), zero_add]
    · rw [ih (by omega) (fun i hi hne => h i (by omega) hne), h n (by omega) (fun e' => e e'.symm), add_zero]
theorem sm_more {n m : Nat} {f : Nat → F} (hm : n ≤ m) (h : ∀ i, n ≤ i → i < m → f i = 0) : sm m f = sm n f := by
  induction m with
  | zero => obtain rfl : n = 0 := by omega
            rfl
  | succ m ih =>
    by_cases e : n = m + 1
    · rw [e]
    · rw [sm_succ, ih (by omega) (fun i h1 h2 => h i h1 (by omega)), h m (by omega) (by omega), add_zero]
theorem sm_append (n m : Nat) (f : Nat → F) : sm (n + m) f = sm n f + sm m (fun i => f (n + i)) := by
  induction m with
  | zero => exact (add_zero _).symm
  | succ m ih => rw [← Nat.add_assoc, sm_succ, ih, sm_succ, add_assoc]
theorem eq_of_add {a b : F} (h : a + b = 0) : a = b := by
  have : a + b + b = 0 + b := by rw [h]
  rwa [add_assoc, add_self, add_zero, zero_add] at this
theorem pw_succ (a : F) (n : Nat) : pw a (n + 1) = a * pw a n := rfl
theorem pw_zero (a : F) : pw a 0 = 1 := rfl
/-! ### polynomials -/
/-- Place k of a polynomial. -/
abbrev at_ (p : List F) (k : Nat) : F := p.getD k 0
theorem at_ge {p : List F} {k : Nat} (h : p.length ≤ k) : at_ p k = 0 := by
  show p.getD k 0 = 0
  rw [List.getD_eq_getElem?_getD, List.getElem?_eq_none h]; rfl
theorem ext_at {p q : List F} (hl : p.length = q.length) (h : ∀ k, k < p.length → at_ p k = at_ q k) : p = q := by
  apply List.ext_getElem hl
  intro k h1 h2
  have := h k h1
  simpa [at_, List.getD_eq_getElem?_getD, h1, h2] using this
/-- The value at x. -/
def ev (x : F) : List F → F
  | [] => 0
  | a :: p => a + ev x p * x
theorem ev_nil (x : F) : ev x [] = 0 := rfl
theorem ev_cons (x a : F) (p : List F) : ev x (a :: p) = a + ev x p * x := rfl
/-- The value at x, power by power. -/
theorem ev_sum (x : F) (p : List F) : ev x p = sm p.length (fun k => at_ p k * pw x k) := by
  induction p with
  | nil => rfl
  | cons a p ih =>
    rw [ev_cons, ih, List.length_cons, sm_first, sm_mul]
    congr 1
    · exact (mul_one a).symm
    · refine sm_congr fun i _ => ?_
      show at_ p i * pw x i * x = at_ p i * (x * pw x i)
      rw [mul_assoc, mul_comm (pw x i) x]
theorem ev_sum' (x : F) (p : List F) (n : Nat) (h : p.length ≤ n) : ev x p = sm n (fun k => at_ p k * pw x k) := by
  rw [ev_sum, sm_more h]
  intro i h1 _
  rw [at_ge h1, zero_mul]
theorem ev_append (x : F) (p q : List F) : ev x (p ++ q) = ev x p + ev x q * pw x p.length := by
  induction p with
  | nil => show ev x q = 0 + ev x q * 1; rw [mul_one, zero_add]
  | cons a p ih =>
    show a + ev x (p ++ q) * x = (a + ev x p * x) + ev x q * (x * pw x p.length)
    rw [ih, add_mul, add_assoc, mul_assoc, mul_comm (pw x p.length) x]
/-- A sum of polynomials: as long as the longer one. -/
def padd : List F → List F → List F
  | [], q => q
  | p, [] => p
  | a :: p, b :: q => (a + b) :: padd p q
theorem padd_nil (p : List F) : padd p [] = p := by cases p <;> rfl
theorem padd_len : ∀ (p q : List F), (padd p q).length = max p.length q.length
  | [], q => by show q.length = max 0 q.length; omega
  | a :: p, [] => by show (a :: p).length = max (a :: p).length 0; omega
  | a :: p, b :: q => by
    show (padd p q).length + 1 = max (p.length + 1) (q.length + 1)
    rw [padd_len p q]; omega
theorem padd_at : ∀ (p q : List F) (k : Nat), at_ (padd p q) k = at_ p k + at_ q k
  | [], q, k => by show at_ q k = at_ [] k + at_ q k; rw [at_ge (p := []) (Nat.zero_le _), zero_add]
  | a :: p, [], k => by show at_ (a :: p) k = at_ (a :: p) k + at_ [] k; rw [at_ge (p := []) (Nat.zero_le _), add_zero]
  | a :: p, b :: q, 0 => rfl
  | a :: p, b :: q, k + 1 => padd_at p q k
theorem padd_comm (p q : List F) : padd p q = padd q p :=
  ext_at (by rw [padd_len, padd_len, Nat.max_comm]) (fun k _ => by rw [padd_at, padd_at, add_comm])
theorem ev_padd (x : F) : ∀ p q : List F, ev x (padd p q) = ev x p + ev x q
  | [], q => by show ev x q = 0 + ev x q; rw [zero_add]
  | a :: p, [] => by show ev x (a :: p) = ev x (a :: p) + 0; rw [add_zero]
  | a :: p, b :: q => by
    show (a + b) + ev x (padd p q) * x = (a + ev x p * x) + (b + ev x q * x)
    rw [ev_padd x p q, add_mul, add4]
theorem at_set (p : List F) (k : Nat) (x : F) (h : k < p.length) (j : Nat) : at_ (p.set k x) j = if j = k then x else at_ p j := by
  simp only [at_, List.getD_eq_getElem?_getD, List.getElem?_set]
  by_cases e : k = j
  · subst e; simp [h]
  · rw [if_neg e, if_neg (fun e' => e e'.symm)]
theorem at_take (p : List F) (k j : Nat) : at_ (p.take k) j = if j < k then at_ p j else 0 := by
  simp only [at_, List.getD_eq_getElem?_getD, List.getElem?_take]
  split <;> rfl
theorem padd_set (l m : List F) (k : Nat) (hk : k < m.length) (hle : m.length ≤ l.length) :
    at_ (padd l (m.take k)) k = at_ l k ∧ (padd l (m.take k)).set k (at_ l k + at_ m k) = padd l (m.take (k + 1)) := by
  have hlen : (padd l (m.take k)).length = l.length := by rw [padd_len, List.length_take]; omega
  refine ⟨by rw [padd_at, at_take, if_neg (by omega), add_zero], ext_at ?_ fun j _ => ?_⟩
  · rw [List.length_set, hlen, padd_len, List.length_take]; omega
  · rw [at_set _ _ _ (by omega), padd_at, padd_at, at_take, at_take]
    by_cases e : j = k
    · subst e
      rw [if_pos rfl, if_pos (by omega)]
    · rw [if_neg e]
      by_cases e2 : j < k
      · rw [if_pos e2, if_pos (by omega)]
      · rw [if_neg e2, if_neg (by omega)]
/-- A multiple. -/
abbrev psc (c : F) (p : List F) : List F := p.map (· * c)
theorem at_map {g : F → F} (h0 : g 0 = 0) (p : List F) (k : Nat) : at_ (p.map g) k = g (at_ p k) := by
  simp only [at_, List.getD_eq_getElem?_getD, List.getElem?_map]
  cases p[k]? <;> simp [h0]
theorem psc_at (c : F) (p : List F) (k : Nat) : at_ (psc c p) k = at_ p k * c := at_map (zero_mul c) p k
theorem ev_psc (x c : F) (p : List F) : ev x (psc c p) = ev x p * c := by
  induction p with
  | nil => exact (zero_mul c).symm
  | cons a p ih =>
    show a * c + ev x (psc c p) * x = (a + ev x p * x) * c
    rw [ih, add_mul, mul_assoc, mul_assoc, mul_comm c x]
/-- The places of a product: sum of p_i * q_(k - i) over the i of the first n that are at most k. -/
def cf (p q : List F) (n k : Nat) : F := sm n (fun i => if i ≤ k then at_ p i * at_ q (k - i) else 0)
theorem cf_all (p q : List F) (n k : Nat) (h : p.length ≤ n) : cf p q n k = cf p q p.length k := by
  unfold cf
  refine sm_more h fun i h1 _ => ?_
  rw [at_ge h1, zero_mul]
  split <;> rfl
theorem cf_top (p q : List F) (n k : Nat) (h : k < n) : cf p q n k = sm (k + 1) (fun i => at_ p i * at_ q (k - i)) := by
  unfold cf
  rw [sm_more (n := k + 1) h (fun i h1 _ => if_neg (by omega))]
  exact sm_congr fun i hi => if_pos (by omega)
/-- A product. -/
def pmul (p q : List F) : List F := if p = [] ∨ q = [] then [] else (List.range (p.length + q.length - 1)).map (cf p q p.length)
theorem pmul_nil_l (q : List F) : pmul [] q = [] := if_pos (.inl rfl)
theorem pmul_nil_r (p : List F) : pmul p [] = [] := if_pos (.inr rfl)
theorem pmul_len {p q : List F} (hp : p ≠ []) (hq : q ≠ []) : (pmul p q).length = p.length + q.length - 1 := by
  unfold pmul
  rw [if_neg (by simp [hp, hq]), List.length_map, List.length_range]
theorem cf_big (p q : List F) (n k : Nat) (hn : n ≤ p.length) (h : p.length + q.length ≤ k + 1) : cf p q n k = 0 := by
  refine sm_zero fun i hi => ?_
  split
  · rw [at_ge (p := q) (by omega), mul_zero]
  · rfl
theorem pmul_at (p q : List F) (k : Nat) : at_ (pmul p q) k = cf p q p.length k := by
  by_cases hp : p = []
  · subst hp; rw [pmul_nil_l]; rfl
  by_cases hq : q = []
  · subst hq
    rw [pmul_nil_r, at_ge (p := []) (Nat.zero_le _)]
    refine (sm_zero fun i _ => ?_).symm
    rw [at_ge (p := []) (Nat.zero_le _), mul_zero]
    split <;> rfl
  have hp' := List.length_pos_iff.2 hp
  have hq' := List.length_pos_iff.2 hq
  unfold pmul
  rw [if_neg (by simp [hp, hq])]
  by_cases hk : k < p.length + q.length - 1
  · simp [at_, List.getD_eq_getElem?_getD, hk]
  · rw [at_ge (by simp; omega)]
    exact (cf_big p q _ k (Nat.le_refl _) (by omega)).symm
/-- Products, first place by first place. -/
theorem cf_cons (a : F) (p q : List F) (n k : Nat) : cf (a :: p) q (n + 1) k = a * at_ q k + (if k = 0 then 0 else cf p q n (k - 1)) := by
  unfold cf
  rw [sm_first, if_pos (Nat.zero_le _)]
  congr 1
  by_cases h : k = 0
  · rw [if_pos h]
    exact sm_zero fun i _ => if_neg (by omega)
  · rw [if_neg h]
    refine sm_congr fun i _ => ?_
    by_cases hi : i + 1 ≤ k
    · rw [if_pos hi, if_pos (by omega), show k - 1 - i = k - (i + 1) from by omega]; rfl
    · rw [if_neg hi, if_neg (by omega)]
theorem pmul_cons (a : F) (p q : List F) (hq : q ≠ []) : pmul (a :: p) q = padd (psc a q) (if p = [] then [] else 0 :: pmul p q) := by
  have hq' := List.length_pos_iff.2 hq
  apply ext_at
  · rw [pmul_len (by simp) hq, padd_len, List.length_map]
    by_cases hp : p = []
    · subst hp; simp
    · have hp' := List.length_pos_iff.2 hp
      rw [if_neg hp, List.length_cons, List.length_cons, pmul_len hp hq]; omega
  · intro k _
    rw [pmul_at, List.length_cons, cf_cons, padd_at, psc_at, mul_comm (at_ q k) a]
    congr 1
    by_cases hp : p = []
    · subst hp
      rw [if_pos rfl, at_ge (p := []) (Nat.zero_le _)]
      split <;> rfl
    · rw [if_neg hp]
      cases k with
      | zero => rfl
      | succ k =>
        rw [if_neg (by omega), Nat.add_sub_cancel]
        show _ = at_ (pmul p q) k
        rw [pmul_at]
theorem ev_pmul (x : F) (p q : List F) : ev x (pmul p q) = ev x p * ev x q := by
  by_cases hq : q = []
  · subst hq; rw [pmul_nil_r, ev_nil, mul_zero]
  induction p with
  | nil => rw [pmul_nil_l, ev_nil, zero_mul]
  | cons a p ih =>
    rw [pmul_cons a p q hq, ev_padd, ev_psc, ev_cons, add_mul, mul_comm (ev x q) a]
    congr 1
    by_cases hp : p = []
    · subst hp
      rw [if_pos rfl, ev_nil, zero_mul, zero_mul]
    · rw [if_neg hp, ev_cons, zero_add, ih, mul_assoc, mul_comm (ev x q) x, mul_assoc]
/-- A product as the code makes it: i rows, and j places of the next one. -/
def rowAt (p q : List F) (i j k : Nat) : F := cf p q i k + (if i ≤ k ∧ k < i + j then at_ p i * at_ q (k - i) else 0)
def rows (p q : List F) (i j : Nat) : List F := (List.range (p.length + q.length - 1)).map (rowAt p q i j)
theorem rows_len (p q : List F) (i j : Nat) : (rows p q i j).length = p.length + q.length - 1 := by simp [rows]
theorem rows_at (p q : List F) (i j k : Nat) (h : k < p.length + q.length - 1) : at_ (rows p q i j) k = rowAt p q i j k := by
  simp [rows, at_, List.getD_eq_getElem?_getD, h]
theorem rows_0 (p q : List F) : rows p q 0 0 = List.replicate (p.length + q.length - 1) 0 := by
  apply ext_at (by rw [rows_len, List.length_replicate])
  intro k hk
  rw [rows_len] at hk
  rw [rows_at _ _ _ _ _ hk]
  have : rowAt p q 0 0 k = 0 := by
    unfold rowAt
    rw [if_neg (by omega), add_zero]
    rfl
  rw [this]
  simp [at_, List.getD_eq_getElem?_getD, hk]
theorem rows_next (p q : List F) (i : Nat) : rows p q i q.length = rows p q (i + 1) 0 := by
  apply ext_at (by rw [rows_len, rows_len])
  intro k hk
  rw [rows_len] at hk
  rw [rows_at _ _ _ _ _ hk, rows_at _ _ _ _ _ hk]
  unfold rowAt
  rw [if_neg (c := i + 1 ≤ k ∧ k < i + 1 + 0) (by omega), add_zero]
  show _ = cf p q i k + (if i ≤ k then at_ p i * at_ q (k - i) else 0)
  congr 1
  by_cases h : i ≤ k
  · rw [if_pos h]
    by_cases h2 : k < i + q.length
    · rw [if_pos ⟨h, h2⟩]
    · rw [if_neg (by omega), at_ge (p := q) (by omega), mul_zero]
  · rw [if_neg h, if_neg (by omega)]
theorem rows_set (p q : List F) (i j : Nat) (hi : i < p.length) (hj : j < q.length) :
    (rows p q i j).set (i + j) (at_ (rows p q i j) (i + j) + at_ p i * at_ q j) = rows p q i (j + 1) := by
  apply ext_at (by rw [List.length_set, rows_len, rows_len])
  intro k hk
  rw [List.length_set, rows_len] at hk
  rw [at_set _ _ _ (by rw [rows_len]; omega), rows_at _ _ _ _ _ hk]
  by_cases e : k = i + j
  · subst e
    rw [if_pos rfl, rows_at _ _ _ _ _ hk, rows_at _ _ _ _ _ hk]
    unfold rowAt
    rw [if_neg (by omega), if_pos (by omega), add_zero, Nat.add_sub_cancel_left]
  · rw [if_neg e, rows_at _ _ _ _ _ hk]
    unfold rowAt
    congr 1
    by_cases h : i ≤ k ∧ k < i + j
    · rw [if_pos h, if_pos (by omega)]
    · rw [if_neg h, if_neg (by omega)]
theorem rows_all {p q : List F} (hp : p ≠ []) (hq : q ≠ []) : rows p q p.length 0 = pmul p q := by
  apply ext_at (by rw [rows_len, pmul_len hp hq])
  intro k hk
  rw [rows_len] at hk
  rw [rows_at _ _ _ _ _ hk, pmul_at]
  unfold rowAt
  rw [if_neg (by omega), add_zero]
/-- The quotient by x + c, from the top: the places of the quotient and the rest. -/
def qt (c : F) (p : List F) : List F := (List.range (p.length - 1)).map fun k => ev c (p.drop (k + 1))
theorem qt_len (c : F) (p : List F) : (qt c p).length = p.length - 1 := by simp [qt]
theorem qt_at (c : F) (p : List F) (k : Nat) : at_ (qt c p) k = ev c (p.drop (k + 1)) := by
  by_cases h : k < p.length - 1
  · simp [qt, at_, List.getD_eq_getElem?_getD, h]
  · rw [at_ge (by rw [qt_len]; omega), List.drop_eq_nil_of_le (by omega)]; rfl
/-- The quotient as the code makes it, from the top down to place k. -/
def qtTo (c : F) (p : List F) (k : Nat) : List F := (List.range (p.length - 1)).map fun j => if k ≤ j then ev c (p.drop (j + 1)) else 0
theorem qtTo_len (c : F) (p : List F) (k : Nat) : (qtTo c p k).length = p.length - 1 := by simp [qtTo]
theorem qtTo_at (c : F) (p : List F) (k j : Nat) (h : j < p.length - 1) : at_ (qtTo c p k) j = if k ≤ j then ev c (p.drop (j + 1)) else 0 := by
  simp [qtTo, at_, List.getD_eq_getElem?_getD, h]
theorem qtTo_start (c : F) (p : List F) : qtTo c p (p.length - 1) = List.replicate (p.length - 1) 0 := by
  apply ext_at (by rw [qtTo_len, List.length_replicate])
  intro k hk
  rw [qtTo_len] at hk
  rw [qtTo_at _ _ _ _ hk, if_neg (by omega)]
  simp [at_, List.getD_eq_getElem?_getD, hk]
theorem qtTo_set (c : F) (p : List F) (j : Nat) (h : j < p.length - 1) : (qtTo c p (j + 1)).set j (ev c (p.drop (j + 1))) = qtTo c p j := by
  apply ext_at (by rw [List.length_set, qtTo_len, qtTo_len])
  intro k hk
  rw [List.length_set, qtTo_len] at hk
  rw [at_set _ _ _ (by rw [qtTo_len]; omega), qtTo_at _ _ _ _ hk, qtTo_at _ _ _ _ hk]
  by_cases e : k = j
  · subst e
    rw [if_pos rfl, if_pos (Nat.le_refl _)]
  · rw [if_neg e]
    by_cases h2 : j ≤ k
    · rw [if_pos h2, if_pos (by omega)]
    · rw [if_neg h2, if_neg (by omega)]
theorem qtTo_0 (c : F) (p : List F) : qtTo c p 0 = qt c p := by
  unfold qtTo qt
  exact List.map_congr_left fun j _ => if_pos (Nat.zero_le _)
theorem drop_at (p : List F) (k : Nat) (h : k < p.length) : p.drop k = at_ p k :: p.drop (k + 1) := by
  rw [List.drop_eq_getElem_cons h]
  simp [at_, List.getD_eq_getElem?_getD, h]
theorem ev_drop (c : F) (p : List F) (k : Nat) : ev c (p.drop k) = at_ p k + ev c (p.drop (k + 1)) * c := by
  by_cases h : k < p.length
  · rw [drop_at p k h]; rfl
  · rw [List.drop_eq_nil_of_le (by omega), List.drop_eq_nil_of_le (by omega), at_ge (by omega), ev_nil, zero_mul, zero_add]
/-- p is its quotient times x + c and the rest: place by place. -/
theorem over_at (c : F) (p : List F) (k : Nat) : at_ p k = at_ (qt c p) k * c + (if k = 0 then ev c p else at_ (qt c p) (k - 1)) := by
  have h := ev_drop c p k
  rw [qt_at]
  have h2 : at_ p k = ev c (p.drop (k + 1)) * c + ev c (p.drop k) := by
    rw [h, add_comm (ev c (p.drop (k + 1)) * c), add_assoc, add_self, add_zero]
  rw [h2]
  congr 1
  cases k with
  | zero => rfl
  | succ k => rw [if_neg (by omega), Nat.add_sub_cancel, qt_at]
theorem mul_lin_at (q : List F) (c : F) (k : Nat) : at_ (pmul q [c, 1]) k = at_ q k * c + (if k = 0 then 0 else at_ q (k - 1)) := by
  rw [pmul_at]
  induction q generalizing k with
  | nil => show (0 : F) = _; rw [at_ge (p := []) (Nat.zero_le _), at_ge (p := []) (Nat.zero_le _), zero_mul, zero_add]; split <;> rfl
  | cons a q ih =>
    rw [List.length_cons, cf_cons]
    match k with
    | 0 => rfl
    | 1 =>
      rw [if_neg (by omega), if_neg (by omega), ih]
      show a * 1 + (at_ q 0 * c + 0) = at_ q 0 * c + a
      rw [mul_one, add_zero, add_comm]
    | k + 2 =>
      rw [if_neg (by omega), if_neg (by omega), show k + 2 - 1 = k + 1 from rfl, ih, if_neg (by omega)]
      show a * 0 + _ = _
      rw [mul_zero, zero_add]
      rfl
/-- The law of the division. -/
theorem over_back (c : F) (p : List F) (k : Nat) : at_ (padd (pmul (qt c p) [c, 1]) [ev c p]) k = at_ p k := by
  rw [padd_at, mul_lin_at, over_at c p k, add_assoc]
  congr 1
  cases k with
  | zero => show (0 : F) + ev c p = ev c p; rw [zero_add]
  | succ k =>
    rw [if_neg (by omega), if_neg (by omega), at_ge (p := [ev c p]) (by simp), add_zero]
/-- The polynomial that is 0 at xs. -/
def rt (xs : List F) : List F := xs.foldl (fun p c => pmul p [c, 1]) [1]
theorem rt_snoc (xs : List F) (c : F) : rt (xs ++ [c]) = pmul (rt xs) [c, 1] := by simp [rt]
theorem snoc_ind {α : Type} {P : List α → Prop} (h0 : P []) (h : ∀ l a, P l → P (l ++ [a])) : ∀ l, P l := by
  intro l
  rw [← List.reverse_reverse l]
  induction l.reverse with
  | nil => exact h0
  | cons a l ih => rw [List.reverse_cons]; exact h _ _ ih
theorem rt_len (xs : List F) : (rt xs).length = xs.length + 1 := by
  induction xs using snoc_ind with
  | h0 => rfl
  | h xs c ih =>
    rw [rt_snoc, pmul_len (fun h => by rw [h] at ih; simp at ih) (by simp), ih, List.length_append]; simp
theorem rt_ne (xs : List F) : rt xs ≠ [] := fun h => by have := rt_len xs; rw [h] at this; simp at this
theorem rt_top (xs : List F) : at_ (rt xs) xs.length = 1 := by
  induction xs using snoc_ind with
  | h0 => rfl
  | h xs c ih =>
    rw [rt_snoc, mul_lin_at, List.length_append]
    show at_ (rt xs) (xs.length + 1) * c + (if xs.length + 1 = 0 then 0 else at_ (rt xs) (xs.length + 1 - 1)) = 1
    rw [at_ge (by rw [rt_len]; omega), if_neg (by omega), Nat.add_sub_cancel, ih, zero_mul, zero_add]
theorem ev_lin (x c : F) : ev x [c, 1] = c + x := by
  show c + (1 + 0 * x) * x = c + x
  rw [zero_mul, add_zero, one_mul]
theorem ev_rt (x : F) (xs : List F) : ev x (rt xs) = 0 ↔ x ∈ xs := by
  induction xs using snoc_ind with
  | h0 =>
    have : ev x (rt []) = 1 := by show (1 : F) + 0 * x = 1; rw [zero_mul, add_zero]
    rw [this]
    simp [one_ne]
  | h xs c ih =>
    rw [rt_snoc, ev_pmul, ev_lin, mul_eq_zero, ih, add_eq_zero, List.mem_append, List.mem_singleton]
    exact ⟨fun h => h.imp id Eq.symm, fun h => h.imp id Eq.symm⟩
/-- The degree: the greatest place that is not 0. -/
def dg (p : List F) : Nat → Int
  | 0 => -1
  | n + 1 => if at_ p n = 0 then dg p n else (n : Int)
def deg (p : List F) : Int := dg p p.length
theorem dg_succ (p : List F) (n : Nat) : dg p (n + 1) = if at_ p n = 0 then dg p n else (n : Int) := rfl
theorem dg_bound (p : List F) : ∀ n, -1 ≤ dg p n ∧ dg p n < n
  | 0 => by show (-1 : Int) ≤ -1 ∧ (-1 : Int) < 0; omega
  | n + 1 => by
    have := dg_bound p n
    rw [dg_succ]
    split <;> omega
theorem deg_rt (xs : List F) : deg (rt xs) = xs.length := by
  unfold deg
  rw [rt_len, dg_succ, rt_top, if_neg one_ne]
theorem qt_rt (x : F) (xs : List F) : ev x (rt xs) = 0 ↔ x ∈ xs := ev_rt x xs
end F
end Go.Proofs.Sh

/- Plain: polynomials through points. -/
namespace Go.Proofs.Sh
namespace F
theorem ev_ext {p q : List F} (h : ∀ k, at_ p k = at_ q k) (x : F) : ev x p = ev x q := by
  rw [ev_sum' x p (max p.length q.length) (by omega), ev_sum' x q (max p.length q.length) (by omega)]
  exact sm_congr fun i _ => by rw [h]
theorem ev_one (x a : F) : ev x [a] = a := by show a + 0 * x = a; rw [zero_mul, add_zero]
theorem ev_over (c x : F) (p : List F) : ev x p = ev x (qt c p) * (c + x) + ev c p := by
  rw [← ev_ext (over_back c p) x, ev_padd, ev_pmul, ev_lin, ev_one]
theorem zero_of_roots : ∀ (xs : List F), xs.Nodup → ∀ p : List F, p.length ≤ xs.length → (∀ x ∈ xs, ev x p = 0) → ∀ k, at_ p k = 0
  | [], _, p, hl, _, k => at_ge (by simp at hl; simp [hl])
  | c :: xs, hn, p, hl, h, k => by
    have hc := h c (List.mem_cons_self ..)
    have hq : ∀ x ∈ xs, ev x (qt c p) = 0 := fun x hx => by
      have h1 := h x (List.mem_cons_of_mem _ hx)
      rw [ev_over c x p, hc, add_zero] at h1
      rcases mul_eq_zero.1 h1 with h2 | h2
      · exact h2
      · exfalso
        have : c = x := eq_of_add h2
        subst this
        exact (List.nodup_cons.1 hn).1 hx
    have ih := zero_of_roots xs (List.nodup_cons.1 hn).2 (qt c p) (by rw [qt_len]; simp at hl; omega) hq
    rw [over_at c p k, ih, zero_mul, zero_add]
    split
    · exact hc
    · exact ih _
theorem padd_self (p q : List F) (k : Nat) : at_ (padd p q) k = 0 ↔ at_ p k = at_ q k := by rw [padd_at, add_eq_zero]
/-- Two polynomials of at most so many places that have the same values are one. -/
theorem uniq {xs p q : List F} (hn : xs.Nodup) (hp : p.length ≤ xs.length) (hq : q.length ≤ xs.length) (h : ∀ x ∈ xs, ev x p = ev x q) (k : Nat) : at_ p k = at_ q k :=
  (padd_self p q k).1 (zero_of_roots xs hn _ (by rw [padd_len]; omega) (fun x hx => by rw [ev_padd, h x hx, add_self]) k)
/-- All bytes. -/
def all : List F := (List.range 256).map F.of
theorem all_nodup : all.Nodup := by
  unfold all
  refine List.pairwise_map.2 (List.Pairwise.imp_of_mem ?_ (List.nodup_range (n := 256)))
  intro a b ha hb hne e
  have := congrArg F.n e
  rw [F.n_of (List.mem_range.1 ha), F.n_of (List.mem_range.1 hb)] at this
  exact hne this
theorem mem_all (x : F) : x ∈ all := List.mem_map.2 ⟨x.n, List.mem_range.2 x.n_lt, F.n_inj (F.n_of x.n_lt)⟩
theorem all_length : all.length = 256 := by simp [all]
/-- Two polynomials of at most 255 places that have the same values but at one byte are one. -/
theorem uniq_but {p q : List F} (c : F) (hp : p.length ≤ 255) (hq : q.length ≤ 255) (h : ∀ x, x ≠ c → ev x p = ev x q) (k : Nat) : at_ p k = at_ q k := by
  have hl : (all.erase c).length = 255 := by rw [List.length_erase_of_mem (mem_all c), all_length]
  refine uniq (xs := all.erase c) (all_nodup.erase c) (by omega) (by omega) (fun x hx => h x ?_) k
  exact ((all_nodup.mem_erase_iff).1 hx).1
/-! ### products -/
def pl (x : F) : List F → F
  | [] => 1
  | c :: l => (c + x) * pl x l
theorem pl_append (x : F) : ∀ a b : List F, pl x (a ++ b) = pl x a * pl x b
  | [], b => (one_mul _).symm
  | c :: a, b => by show (c + x) * pl x (a ++ b) = (c + x) * pl x a * pl x b; rw [pl_append x a b, mul_assoc]
theorem pl_one (x c : F) : pl x [c] = c + x := mul_one _
theorem ev_rt_pl (x : F) (xs : List F) : ev x (rt xs) = pl x xs := by
  induction xs using snoc_ind with
  | h0 => exact ev_one x 1
  | h xs c ih => rw [rt_snoc, ev_pmul, ev_lin, ih, pl_append, pl_one]
theorem pl_ne {x : F} : ∀ {l : List F}, x ∉ l → pl x l ≠ 0
  | [], _ => one_ne
  | c :: l, h => mul_ne (fun e => h (by rw [eq_of_add e]; exact List.mem_cons_self ..)) (pl_ne (fun e => h (List.mem_cons_of_mem _ e)))
theorem inv_mul_eq {a b : F} : inv (a * b) = inv a * inv b := by
  by_cases ha : a = 0
  · rw [ha, zero_mul, inv_zero, zero_mul]
  by_cases hb : b = 0
  · rw [hb, mul_zero, inv_zero, mul_zero]
  refine (eq_inv ?_).symm
  rw [show a * b * (inv a * inv b) = a * inv a * (b * inv b) from by ac_rfl, mul_inv ha, mul_inv hb, mul_one]
/-- The first k but the i-th. -/
def but (xs : List F) (i : Nat) : Nat → List F
  | 0 => []
  | k + 1 => if k = i then but xs i k else but xs i k ++ [xs.getD k 0]
theorem pl_but (x : F) (xs : List F) (i : Nat) : ∀ k, k ≤ xs.length → pl x (xs.take k) = pl x (but xs i k) * (if i < k then xs.getD i 0 + x else 1)
  | 0, _ => by show (1 : F) = 1 * 1; rw [mul_one]
  | k + 1, h => by
    have ih := pl_but x xs i k (by omega)
    have ht : xs.take (k + 1) = xs.take k ++ [xs.getD k 0] := by
      have h : k < xs.length := h
      rw [List.take_succ_eq_append_getElem h]
      simp [List.getD_eq_getElem?_getD, h]
    rw [ht, pl_append, pl_one, ih]
    show _ = pl x (if k = i then but xs i k else but xs i k ++ [xs.getD k 0]) * _
    by_cases e : k = i
    · subst e
      rw [if_neg (Nat.lt_irrefl _), if_pos rfl, if_pos (Nat.lt_succ_self _), mul_one]
    · rw [if_neg e, pl_append, pl_one]
      by_cases e2 : i < k
      · rw [if_pos e2, if_pos (by omega)]; ac_rfl
      · rw [if_neg e2, if_neg (by omega)]; ac_rfl
theorem mem_but {xs : List F} {i : Nat} {y : F} : ∀ {k}, y ∈ but xs i k → ∃ j, j < k ∧ j ≠ i ∧ y = xs.getD j 0
  | k + 1, h => by
    by_cases e : k = i
    · have h' : y ∈ but xs i k := by simpa [but, e] using h
      obtain ⟨j, hj, h1, h2⟩ := mem_but h'
      exact ⟨j, by omega, h1, h2⟩
    · have h' : y ∈ but xs i k ++ [xs.getD k 0] := by
        have : but xs i (k + 1) = but xs i k ++ [xs.getD k 0] := if_neg e
        rwa [this] at h
      rcases List.mem_append.1 h' with h | h
      · obtain ⟨j, hj, h1, h2⟩ := mem_but h
        exact ⟨j, by omega, h1, h2⟩
      · exact ⟨k, by omega, e, List.mem_singleton.1 h⟩
theorem getD_inj {xs : List F} (hn : xs.Nodup) {i j : Nat} (hi : i < xs.length) (hj : j < xs.length) (e : xs.getD i 0 = xs.getD j 0) : i = j := by
  have e' : xs[i] = xs[j] := by simpa [List.getD_eq_getElem?_getD, hi, hj] using e
  have hp := List.pairwise_iff_getElem.1 hn
  rcases Nat.lt_trichotomy i j with h | h | h
  · exact (hp i j hi hj h e').elim
  · exact h
  · exact (hp j i hj hi h e'.symm).elim
theorem but_free {xs : List F} (hn : xs.Nodup) {i k : Nat} (hi : i < xs.length) (hk : k ≤ xs.length) : xs.getD i 0 ∉ but xs i k := fun h => by
  obtain ⟨j, hj, h1, h2⟩ := mem_but h
  exact h1 (getD_inj hn (by omega) hi h2.symm)
theorem but_len (xs : List F) (i : Nat) : ∀ k, (but xs i k).length ≤ k
  | 0 => Nat.le_refl _
  | k + 1 => by
    have := but_len xs i k
    unfold but
    split
    · omega
    · rw [List.length_append]; simp; omega
/-- The polynomial that is 0 at all points but the i-th. -/
abbrev hole (xs : List F) (i : Nat) : List F := qt (xs.getD i 0) (rt xs)
theorem hole_len (xs : List F) (i : Nat) : (hole xs i).length = xs.length := by rw [qt_len, rt_len]; rfl
theorem ev_hole {xs : List F} (i : Nat) (hi : i < xs.length) (h : xs.length < 255) (x : F) : ev x (hole xs i) = pl x (but xs i xs.length) := by
  rw [← ev_rt_pl]
  refine ev_ext (uniq_but (xs.getD i 0) (by rw [hole_len]; omega) (by rw [rt_len]; have := but_len xs i xs.length; omega) (fun y hy => ?_)) x
  have h1 := ev_over (xs.getD i 0) y (rt xs)
  have h2 : ev (xs.getD i 0) (rt xs) = 0 := (ev_rt _ _).2 (by
    rw [List.getD_eq_getElem?_getD, List.getElem?_eq_getElem hi]
    exact List.getElem_mem hi)
  rw [h2, add_zero, ev_rt_pl] at h1
  have h3 := pl_but y xs i xs.length (Nat.le_refl _)
  rw [List.take_length, if_pos hi, h1] at h3
  have hne : xs.getD i 0 + y ≠ 0 := fun e => hy (eq_of_add e).symm
  rw [ev_rt_pl]
  exact mul_cancel hne (by rw [mul_comm, h3, mul_comm])
theorem hole_at {xs : List F} (hn : xs.Nodup) (i j : Nat) (hi : i < xs.length) (hj : j < xs.length) (h : xs.length < 255) : (ev (xs.getD j 0) (hole xs i) = 0) ↔ j ≠ i := by
  constructor
  · intro h0 e
    subst e
    rw [ev_hole j hi h] at h0
    exact pl_ne (but_free hn hi (Nat.le_refl _)) h0
  · intro e
    have h1 := ev_over (xs.getD i 0) (xs.getD j 0) (rt xs)
    have hm : ∀ k, k < xs.length → ev (xs.getD k 0) (rt xs) = 0 := fun k hk => (ev_rt _ _).2 (by
      rw [List.getD_eq_getElem?_getD, List.getElem?_eq_getElem hk]
      exact List.getElem_mem hk)
    rw [hm i hi, hm j hj, add_zero] at h1
    rcases mul_eq_zero.1 h1.symm with h2 | h2
    · exact h2
    · exact (e (getD_inj hn hj hi (eq_of_add h2).symm)).elim
/-- The polynomial that is 1 at the i-th point, and 0 at all others. -/
def bas (xs : List F) (i : Nat) : List F := psc (inv (ev (xs.getD i 0) (hole xs i))) (hole xs i)
theorem bas_len (xs : List F) (i : Nat) : (bas xs i).length = xs.length := by rw [bas, List.length_map, hole_len]
theorem ev_bas {xs : List F} (hn : xs.Nodup) (i j : Nat) (hi : i < xs.length) (hj : j < xs.length) (h : xs.length < 255) : ev (xs.getD j 0) (bas xs i) = if j = i then 1 else 0 := by
  unfold bas
  rw [ev_psc]
  by_cases e : j = i
  · subst e
    rw [if_pos rfl, mul_inv (fun e => (hole_at hn j j hi hj h).1 e rfl)]
  · rw [if_neg e, (hole_at hn i j hi hj h).2 e, zero_mul]
/-- The weight of the i-th value at x, after k factors. -/
def wtTo (xs : List F) (i : Nat) (x : F) : Nat → F
  | 0 => 1
  | k + 1 => if k = i then wtTo xs i x k else wtTo xs i x k * ((x + xs.getD k 0) * inv (xs.getD i 0 + xs.getD k 0))
abbrev wt (xs : List F) (x : F) (i : Nat) : F := wtTo xs i x xs.length
theorem wtTo_eq (xs : List F) (i : Nat) (x : F) : ∀ k, wtTo xs i x k = pl x (but xs i k) * inv (pl (xs.getD i 0) (but xs i k))
  | 0 => by show (1 : F) = 1 * inv 1; decide +kernel
  | k + 1 => by
    have ih := wtTo_eq xs i x k
    unfold wtTo but
    by_cases e : k = i
    · rw [if_pos e, if_pos e, ih]
    · rw [if_neg e, if_neg e, ih, pl_append, pl_append, pl_one, pl_one, inv_mul_eq, add_comm x, add_comm (xs.getD i 0)]
      ac_rfl
/-- What the code reckons is the document's weight. -/
theorem ev_bas_wt (xs : List F) (x : F) (i : Nat) (hi : i < xs.length) (h : xs.length < 255) : ev x (bas xs i) = wt xs x i := by
  unfold bas
  rw [ev_psc, wt, wtTo_eq, ev_hole i hi h, ev_hole i hi h]
/-- The polynomial through points as the code makes it: the first k of them. -/
def thr (xs ys : List F) : Nat → List F
  | 0 => List.replicate xs.length 0
  | k + 1 => padd (thr xs ys k) (psc (ys.getD k 0) (bas xs k))
theorem thr_len (xs ys : List F) : ∀ k, (thr xs ys k).length = xs.length
  | 0 => List.length_replicate
  | k + 1 => by
    show (padd (thr xs ys k) _).length = _
    rw [padd_len, thr_len xs ys k, List.length_map, bas_len]; omega
theorem ev_zeros (x : F) (n : Nat) : ev x (List.replicate n 0) = 0 := by
  induction n with
  | zero => rfl
  | succ n ih => rw [List.replicate_succ, ev_cons, ih, zero_mul, add_zero]
theorem ev_thr (xs ys : List F) (x : F) : ∀ k, ev x (thr xs ys k) = sm k (fun i => ev x (bas xs i) * ys.getD i 0)
  | 0 => ev_zeros x _
  | k + 1 => by
    show ev x (padd (thr xs ys k) _) = _
    rw [ev_padd, ev_psc, ev_thr xs ys x k, sm_succ]
theorem thr_at {xs : List F} (ys : List F) (hn : xs.Nodup) (j : Nat) (hj : j < xs.length) (h : xs.length < 255) : ev (xs.getD j 0) (thr xs ys xs.length) = ys.getD j 0 := by
  rw [ev_thr, sm_one j hj (fun i hi hne => by rw [ev_bas hn i j hi hj h, if_neg (fun e => hne e.symm), zero_mul]), ev_bas hn j j hj hj h, if_pos rfl, one_mul]
/-- Through the points: every list of so many places with these values is the one. -/
theorem thr_uniq {xs ys p : List F} (hn : xs.Nodup) (h : xs.length < 255) (hp : p.length ≤ xs.length) (hv : ∀ j, j < xs.length → ev (xs.getD j 0) p = ys.getD j 0) (k : Nat) : at_ (thr xs ys xs.length) k = at_ p k := by
  refine uniq hn (by rw [thr_len]; omega) hp (fun x hx => ?_) k
  obtain ⟨j, hj, rfl⟩ := List.getElem_of_mem hx
  have e : xs.getD j 0 = xs[j] := by simp [List.getD_eq_getElem?_getD, hj]
  rw [← e, thr_at ys hn j hj h, hv j hj]
/-! ### Newton's way -/
def nwt (xs ys : List F) : Nat → List F
  | 0 => []
  | k + 1 => padd (nwt xs ys k) (psc ((ys.getD k 0 + ev (xs.getD k 0) (nwt xs ys k)) * inv (ev (xs.getD k 0) (rt (xs.take k)))) (rt (xs.take k)))
theorem nwt_len (xs ys : List F) : ∀ k, k ≤ xs.length → (nwt xs ys k).length = k
  | 0, _ => rfl
  | k + 1, h => by
    show (padd (nwt xs ys k) _).length = _
    rw [padd_len, nwt_len xs ys k (by omega), List.length_map, rt_len, List.length_take]; omega
theorem take_free {xs : List F} (hn : xs.Nodup) (k : Nat) (hk : k < xs.length) : xs.getD k 0 ∉ xs.take k := fun h => by
  obtain ⟨j, hj, e⟩ := List.getElem_of_mem h
  rw [List.length_take] at hj
  have hj' : j < xs.length := by omega
  have : j = k := getD_inj hn hj' hk (by
    rw [← e]
    simp [List.getD_eq_getElem?_getD, hj'])
  omega
theorem nwt_at {xs : List F} (ys : List F) (hn : xs.Nodup) : ∀ k, k ≤ xs.length → ∀ j, j < k → ev (xs.getD j 0) (nwt xs ys k) = ys.getD j 0
  | k + 1, hk, j, hj => by
    show ev (xs.getD j 0) (padd (nwt xs ys k) _) = _
    rw [ev_padd, ev_psc]
    by_cases e : j = k
    · subst e
      have hne : ev (xs.getD j 0) (rt (xs.take j)) ≠ 0 := fun h0 => take_free hn j (by omega) ((ev_rt _ _).1 h0)
      rw [mul_comm, mul_assoc, inv_mul hne, mul_one, add_comm (ys.getD j 0), ← add_assoc, add_self, zero_add]
    · have h0 : ev (xs.getD j 0) (rt (xs.take k)) = 0 := (ev_rt _ _).2 (by
        have hj' : j < (xs.take k).length := by rw [List.length_take]; omega
        have := List.getElem_mem hj'
        simpa [List.getD_eq_getElem?_getD, show j < xs.length by omega] using this)
      rw [h0, zero_mul, add_zero]
      exact nwt_at ys hn k (by omega) j (by omega)
theorem nwt_thr {xs ys : List F} (hn : xs.Nodup) (h : xs.length < 255) : nwt xs ys xs.length = thr xs ys xs.length := by
  have hl := nwt_len xs ys xs.length (Nat.le_refl _)
  refine ext_at (by rw [hl, thr_len]) (fun k _ => (thr_uniq hn h (by omega) (fun j hj => nwt_at ys hn _ (Nat.le_refl _) j hj) k).symm)
/-! ### sums of products by places -/
theorem dot_sm : ∀ (l m : List F), dot l m = sm l.length (fun i => l.getD i 0 * m.getD i 0)
  | [], m => rfl
  | a :: l, [] => by
    rw [dot_nil_r, sm_zero]
    intro i _
    show _ * ([] : List F).getD i 0 = 0
    simp [mul_zero]
  | a :: l, b :: m => by
    rw [List.length_cons, sm_first]
    show a * b + dot l m = _
    rw [dot_sm l m]
    rfl
/-- The weights. -/
def wts (xs : List F) (x : F) : List F := (List.range xs.length).map (wt xs x)
theorem wts_len (xs : List F) (x : F) : (wts xs x).length = xs.length := by simp [wts]
theorem wts_at (xs : List F) (x : F) (i : Nat) (hi : i < xs.length) : (wts xs x).getD i 0 = wt xs x i := by simp [wts, List.getD_eq_getElem?_getD, hi]
/-- The first k weights, and zeros. -/
def wtsTo (xs : List F) (x : F) (k : Nat) : List F := (List.range xs.length).map (fun i => if i < k then wt xs x i else 0)
theorem wtsTo_len (xs : List F) (x : F) (k : Nat) : (wtsTo xs x k).length = xs.length := by simp [wtsTo]
theorem wtsTo_at (xs : List F) (x : F) (k i : Nat) (hi : i < xs.length) : at_ (wtsTo xs x k) i = if i < k then wt xs x i else 0 := by simp [wtsTo, at_, List.getD_eq_getElem?_getD, hi]
theorem wtsTo_0 (xs : List F) (x : F) : wtsTo xs x 0 = List.replicate xs.length 0 := by
  apply ext_at (by rw [wtsTo_len, List.length_replicate])
  intro k hk
  rw [wtsTo_len] at hk
  rw [wtsTo_at _ _ _ _ hk, if_neg (by omega)]
  simp [at_, List.getD_eq_getElem?_getD, hk]
theorem wtsTo_all (xs : List F) (x : F) : wtsTo xs x xs.length = wts xs x := by
  unfold wtsTo wts
  exact List.map_congr_left fun j hj => if_pos (List.mem_range.1 hj)
theorem wtsTo_set (xs : List F) (x : F) (k : Nat) (hk : k < xs.length) : (wtsTo xs x k).set k (wt xs x k) = wtsTo xs x (k + 1) := by
  apply ext_at (by rw [List.length_set, wtsTo_len, wtsTo_len])
  intro j hj
  rw [List.length_set, wtsTo_len] at hj
  rw [at_set _ _ _ (by rw [wtsTo_len]; omega), wtsTo_at _ _ _ _ hj, wtsTo_at _ _ _ _ hj]
  by_cases e : j = k
  · subst e
    rw [if_pos rfl, if_pos (by omega)]
  · rw [if_neg e]
    by_cases h2 : j < k
    · rw [if_pos h2, if_pos (by omega)]
    · rw [if_neg h2, if_neg (by omega)]
theorem dot_wts (xs ys : List F) (x : F) (h : xs.length < 255) : dot (wts xs x) ys = ev x (thr xs ys xs.length) := by
  rw [dot_sm, wts_len, ev_thr]
  exact sm_congr fun i hi => by rw [wts_at xs x i hi, ev_bas_wt xs x i hi h]
/-- Of every polynomial of so many places the value is the sum of its values, each times its weight. -/
theorem dot_wts_ev {xs p : List F} (hn : xs.Nodup) (h : xs.length < 255) (hp : p.length ≤ xs.length) (x : F) : dot (wts xs x) (xs.map fun c => ev c p) = ev x p := by
  rw [dot_wts xs _ x h]
  exact ev_ext (thr_uniq hn h hp (fun j hj => by simp [List.getD_eq_getElem?_getD, hj])) x
end F
end Go.Proofs.Sh
