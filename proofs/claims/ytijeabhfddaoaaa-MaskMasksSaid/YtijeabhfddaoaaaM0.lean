/-! Plain arithmetic of bytes: no Go in sight. -/
namespace Go.Proofs.Sh

/-- A byte, as an element of the field. -/
structure F where
  v : BitVec 8
  deriving DecidableEq

namespace F
theorem ext' {a b : F} (h : a.v = b.v) : a = b := by cases a; cases b; cases h; rfl
def n (a : F) : Nat := a.v.toNat
def of (k : Nat) : F := ⟨BitVec.ofNat 8 k⟩
theorem n_lt (a : F) : a.n < 256 := a.v.isLt
theorem n_of {k : Nat} (h : k < 256) : (of k).n = k := by
  simp [n, of, BitVec.toNat_ofNat]; omega
theorem of_n (a : F) : of a.n = a := ext' (by simp [n, of])
theorem n_inj {a b : F} (h : a.n = b.n) : a = b := ext' (BitVec.eq_of_toNat_eq h)
theorem n_inj_iff {a b : F} : a.n = b.n ↔ a = b := ⟨n_inj, fun h => h ▸ rfl⟩
instance : Zero F := ⟨⟨0⟩⟩
instance : One F := ⟨⟨1⟩⟩
instance : Add F := ⟨fun a b => ⟨a.v ^^^ b.v⟩⟩
theorem zero_n : (0 : F).n = 0 := rfl
theorem one_n : (1 : F).n = 1 := rfl
theorem add_n (a b : F) : (a + b).n = a.n ^^^ b.n := by
  show (a.v ^^^ b.v).toNat = _
  rw [BitVec.toNat_xor]; rfl
theorem add_comm (a b : F) : a + b = b + a := ext' (BitVec.xor_comm ..)
theorem add_assoc (a b c : F) : a + b + c = a + (b + c) := ext' (BitVec.xor_assoc ..)
theorem add_self (a : F) : a + a = 0 := ext' BitVec.xor_self
theorem add_zero (a : F) : a + 0 = a := ext' BitVec.xor_zero
theorem zero_add (a : F) : 0 + a = a := ext' BitVec.zero_xor
instance : Std.Associative (α := F) (· + ·) := ⟨add_assoc⟩
instance : Std.Commutative (α := F) (· + ·) := ⟨add_comm⟩
theorem add_cancel {a b c : F} (h : a + b = a + c) : b = c := by
  have := congrArg (a + ·) h
  simpa [← add_assoc, add_self, zero_add] using this
theorem add_eq_zero {a b : F} : a + b = 0 ↔ a = b := ⟨fun h => by
  have := congrArg (· + b) h
  simpa [add_assoc, add_self, add_zero, zero_add] using this, fun h => by rw [h, add_self]⟩

/-- The reference's product, on numbers: k rounds to go. -/
def mulN : Nat → Nat → Nat → Nat → Nat
  | 0, _, _, s => s
  | k + 1, x, b, s => mulN k (bif Nat.ble (x * 2) 255 then x * 2 else (x * 2) ^^^ 283) (b / 2) (bif Nat.beq (b % 2) 1 then s ^^^ x else s)
def xtN (x : Nat) : Nat := if 255 < x * 2 then (x * 2) ^^^ 283 else x * 2
def bitMul (a b : Nat) : Nat := mulN 8 a b 0

/-- 3 to the i. -/
def powN : Nat → Nat
  | 0 => 1
  | i + 1 => let x := powN i; let y := x ^^^ (x * 2); if 255 < y then y ^^^ 283 else y
/-- The powers of 3, 510 of them, and the places of the bytes among them, 8 bits each. -/
def expLit : Nat := 0xf652c7b46c241cfda297847cdd4b39170df2a794858a8f8c8d7b29ee5a36120ef351c6423ee3a891868b79de4acf45ca46cbb099772d1b0907f4a563211ffc54c543c8b16f25eaaf6523e858c1b69b80898e7adfbc9d827e2aefac64d5ba9f75dabf9c742ced5bc040c9473de25ec3413f15fa5632e75dc2b76dd24e3a16fba06020e9ae93712fecad92877d2b19fea361d6bb69271d0bf0503010f957c4b59a76db49ceb398817fdcbd6bd0b99e838878281808f1a662d74d3be0a967d44ccdb26ed3b868d14fcc443c140c04f55331e6ab9070d9be6a26eb5937e45c34e5aa66221e0a0602f7a49573d84838e15f3513f8a196722e1aff5533110f050301f652c7b46c241cfda297847cdd4b39170df2a794858a8f8c8d7b29ee5a36120ef351c6423ee3a891868b79de4acf45ca46cbb099772d1b0907f4a563211ffc54c543c8b16f25eaaf6523e858c1b69b80898e7adfbc9d827e2aefac64d5ba9f75dabf9c742ced5bc040c9473de25ec3413f15fa5632e75dc2b76dd24e3a16fba06020e9ae93712fecad92877d2b19fea361d6bb69271d0bf0503010f957c4b59a76db49ceb398817fdcbd6bd0b99e838878281808f1a662d74d3be0a967d44ccdb26ed3b868d14fcc443c140c04f55331e6ab9070d9be6a26eb5937e45c34e5aa66221e0a0602f7a49573d84838e15f3513f8a196722e1aff5533110f050301
def logLit : Nat := 0x770f7c0808c630d18fe31c5deed4a67a5e3997726b87cb4892e2023d9921144abd3f2565d9e2a14476da2413c843953d15b3f37cdcf95bcfcdcbe619087b2979d2955aa6ca1523b86b160fb5a3ebbccb77b76a42d1f43d8ec49c4176ff60c7fa051a99cb05fcb59f50b16eb7a75d72ce8ade6e7d5e9ae4f74d6eaf450a858af57a773f3e5acd44eca5e9f9b150a792bba3d85fa54286b3a421eb6a3c3486e7e1091882298e225b3628b06bf30fddd6638834640f1d25c1394ced036bddb8f968eda93354582f01224e10f21058a2f657809c99a72a6e44d6a27b9f9b51dc27dc11c69f8c808714cef818d340ee0046403dfee33681bc74bc61a023201190000
def expAt (i : Nat) : Nat := (expLit >>> (8 * i)) % 256
def logAt (i : Nat) : Nat := (logLit >>> (8 * i)) % 256
def tabMul (a b : Nat) : Nat := bif Nat.beq a 0 then 0 else bif Nat.beq b 0 then 0 else expAt (logAt a + logAt b)
def allTo : Nat → (Nat → Bool) → Bool
  | 0, _ => true
  | k + 1, f => f k && allTo k f
theorem allTo_spec {f : Nat → Bool} : ∀ {k : Nat}, allTo k f = true → ∀ i, i < k → f i = true
  | 0, _, i, hi => absurd hi (Nat.not_lt_zero _)
  | k + 1, h, i, hi => by
    simp only [allTo, Bool.and_eq_true] at h
    rcases Nat.lt_succ_iff_lt_or_eq.1 hi with hi | rfl
    · exact allTo_spec h.2 i hi
    · exact h.1
theorem chk_mul : allTo 256 (fun a => allTo 256 (fun b => Nat.beq (bitMul a b) (tabMul a b))) = true := by decide +kernel
theorem chk_powers : allTo 510 (fun i => expAt i == powN i) = true := by decide +kernel
theorem chk_exp : allTo 255 (fun i => logAt (expAt i) == i && expAt (i + 255) == expAt i && decide (0 < expAt i)) = true := by decide +kernel
theorem chk_log : allTo 256 (fun a => a == 0 || (expAt (logAt a) == a && decide (logAt a < 255))) = true := by decide +kernel
end F
end Go.Proofs.Sh
