/- Words for the walks: bytes of the field in memory, and small laws on worlds. -/
import Derived.Test.YtijeabhfddaoaaaProg
import Derived.WalkKit
import Derived.Deep.QuietTactic
import Derived.BigQuiet
import Derived.BigRegion
import Derived.Deep.DeepCutAuto
import Derived.Deep.CutBlock
import Derived.Deep.LoopGhost
import Derived.Deep.RegionHeld3
import Derived.Deep.DeepFit
import Derived.KernelRfl
import Derived.RowKit3
import Derived.Lib.Hide
import Derived.WalkSpells
import Derived.WalkLawsBesides
import Derived.Test.YtijeabhfddaoaaaWWords
import Derived.Test.YtijeabhfddaoaaaM2
namespace Go.Proofs.Ytijeabhfddaoaaa
open Go.RowKit Go.Proofs.YtijeabhfddaoaaaW.PrintWords Go.Proofs.Sh
/-- A byte of the field as a value. -/
def bV (a : F) : Value := .int .u8 (a.n : Int)
/-- Bytes in memory. -/
def kb : Kd F := Kd.scalar bV (fun _ => rfl)


theorem n_lt' (a : F) : (a.n : Int) < 256 := by have := a.n_lt; omega
theorem n_ge (a : F) : 0 ≤ (a.n : Int) := Int.natCast_nonneg _
/-! ### bytes that are read -/
/-- The value v reads, in the world w, as the list l of the kind d. -/
def Rk {α : Type} (d : Kd α) (w : World) (v : Value) (l : List α) : Prop := ∃ A c, v = .slice A l.length c ∧ l.length ≤ c ∧ d.C w A l.length l
/-- .. as bytes; as numbers; as bools; as lists of bytes. -/
abbrev Rb (w : World) (v : Value) (l : List F) : Prop := Rk kb w v l
abbrev Ri (w : World) (v : Value) (l : List Int) : Prop := Rk (Kd.int .i64) w v l
abbrev Rl (w : World) (v : Value) (l : List Bool) : Prop := Rk Kd.bool w v l
/-- Lists of bytes. -/
def kbb : Kd (List F) := Kd.slice 5 kb
abbrev Rbb (w : World) (v : Value) (l : List (List F)) : Prop := Rk kbb w v l
section
variable {α : Type} {d : Kd α} {w w' : World} {v : Value} {l : List α}
theorem Rk.below (h : Rk d w v l) (hb : Below w.heap.size w w') : Rk d w' v l := by
  obtain ⟨A, c, rfl, hc, hr⟩ := h
  exact ⟨A, c, rfl, hc, Kd.C_below hr hb⟩
theorem Rk.drew (h : Rk d w v l) : Rk d w.drew v l := h.below ((Below.refl _ _).drew)
theorem Rk.drewN (h : Rk d w v l) (n : Nat) : Rk d (w.drewN n) v l := h.below (pw_below_drewN (Below.refl _ _) n)
theorem Rk.alloc (h : Rk d w v l) (o : Obj) : Rk d (w.alloc o) v l := h.below (below_alloc (Below.refl _ _) o)
theorem Rk.drawn (h : Rk d w v l) (hd : Drawn0 w w') : Rk d w' v l := h.below hd.below
theorem Rk.nil (d : Kd α) (w : World) : Rk d w (.slice none 0 0) [] := ⟨none, 0, rfl, Nat.le_refl _, Kd.C_nil _ _⟩
/-- A row of the call's own: it reads. -/
theorem Rk.own {e base : Nat} {ok : Nat → Prop} (h : d.R e w base ok v l) : Rk d w v l := by
  obtain ⟨A, c, rfl, hc, hr⟩ := Kd.R_reads h
  exact ⟨A, c, rfl, hc, hr⟩
end
theorem kb_at {w : World} {A : Option Addr} {n : Nat} {l : List F} (h : kb.C w A n l) (k : Nat) (hk : k < n) : ∃ ad, A = some ad ∧ w.cell? (ad.add k) = some (.int .u8 ((l.getD k 0).n : Int)) := by
  obtain ⟨ad, c, e, _, hK, hc⟩ := Kd.C_get h 0 (k : Int) (by omega) (by omega)
  refine ⟨ad, e, ?_⟩
  have hK' : c = [bV (l.getD (k : Int).toNat 0)] := hK
  rw [Int.toNat_natCast] at hK'
  subst hK'
  have := hc 0 _ rfl
  simpa [kb, Kd.scalar, bV] using this
theorem kb_len {w : World} {A : Option Addr} {n : Nat} {l : List F} (h : kb.C w A n l) : n ≤ 9223372036854775807 := h.2.1
theorem kb_drawn {w w' : World} {A : Option Addr} {n : Nat} {l : List F} (h : kb.C w A n l) (hd : Drawn0 w w') : kb.C w' A n l := Kd.C_below h hd.below
theorem wrap_n (x : F) : wrap64 (x.n : Int) = x.n := by have := x.n_lt; unfold wrap64; omega
/-- A byte that came in, as an element of the field. -/
theorem F_of_int {a : Int} (h : (Lit.int .u8 a).wf = true) : ∃ x : F, a = (x.n : Int) := by
  have hb : 0 ≤ a ∧ a ≤ 255 := by simpa [Lit.wf, IntKind.min, IntKind.max, IntKind.signed, IntKind.bits] using h
  exact ⟨F.of a.toNat, by rw [F.n_of (by omega)]; omega⟩
/-! ### sums -/
theorem xor8 (a b : F) : Go.bits .xor .u8 (a.n : Int) (b.n : Int) = ((a + b).n : Int) := by
  rw [u8_xor_nat _ _ a.n_lt b.n_lt, F.add_n]
theorem i64_xor_nat (a b : Nat) (ha : a < 2 ^ 32) (hb : b < 2 ^ 32) : Go.bits .xor .i64 (a : Int) (b : Int) = ((a ^^^ b : Nat) : Int) := by
  have h : a ^^^ b < 2 ^ 32 := Nat.xor_lt_two_pow ha hb
  simp only [Go.bits, BitVec.ofInt_natCast, BitVec.toNat_xor, BitVec.toNat_ofNat]
  rw [Nat.mod_eq_of_lt (show a < 2 ^ IntKind.i64.bits from Nat.lt_of_lt_of_le ha (by decide)), Nat.mod_eq_of_lt (show b < 2 ^ IntKind.i64.bits from Nat.lt_of_lt_of_le hb (by decide)), IntKind.wrap_i64]
  omega
/-! ### a callee that only reads, inside a region that draws its order -/
theorem qd {P : Program} {f : FuncId} {args : Array Value} {w : World} {n : Nat} {v : Value}
    (h : Calls P f args (w.drewN n) fun e w' => e = .returned v ∧ Drawn0 (w.drewN n) w') : Calls P f args (w.drewN n) fun e w'' => e = .returned v ∧ ∃ m, w'' = w.drewN m :=
  h.mono fun _ _ ⟨he, ⟨m, hm⟩⟩ => ⟨he, n + m, by rw [hm, World.drewN_drewN]⟩
theorem qs {P : Program} {f : FuncId} {args : Array Value} {w : World} {n : Nat} {v : Value}
    (h : Calls P f args (w.drewN n) fun e w' => e = .returned v ∧ w.drewN n = w') : Calls P f args (w.drewN n) fun e w'' => e = .returned v ∧ ∃ m, w'' = w.drewN m :=
  h.mono fun _ _ ⟨he, hm⟩ => ⟨he, n, hm.symm⟩
/-! ### worlds -/
theorem drawn0_below {w w' : World} (h : Drawn0 w w') : Below w.heap.size w w' := h.below
theorem bt_ {w w1 w2 : World} (h : Below w.heap.size w w1) (k : Below w1.heap.size w1 w2) : Below w.heap.size w w2 := h.trans (k.mono h.size)
theorem bd {w w1 w2 : World} (h : Below w.heap.size w w1) (k : Drawn0 w1 w2) : Below w.heap.size w w2 := bt_ h k.below
theorem cell_set_same {w : World} {a : Addr} {u v : Value} (h : w.cell? a = some u) : (w.setCell a v).cell? a = some v := World.cell?_setCell_same _ _ _ h
theorem cell_set_ne {w : World} {b i j : Nat} {v : Value} (h : i ≠ j) : (w.setCell ⟨b, i, none⟩ v).cell? ⟨b, j, none⟩ = w.cell? ⟨b, j, none⟩ :=
  World.cell?_setCell_other _ _ _ _ (fun e => h (by injection e))
theorem frozen_set {w : World} {a b : Addr} {v : Value} : (w.setCell a v).frozen? b = w.frozen? b := World.frozen?_setCell _ _ _ _
end Go.Proofs.Ytijeabhfddaoaaa
