/- Several texts of this seat, one behind the other. -/
import Derived.Test.YtacbenjfiabegaaProg
import Derived.WalkKit
import Derived.Deep.QuietTactic
import Derived.BigQuiet
import Derived.BigRegion
import Derived.Deep.DeepCutAuto
import Derived.Deep.CutBlock
import Derived.Deep.LoopGhost
import Derived.Deep.RegionHeld3
import Derived.Deep.DeepFit
import Derived.KernelRfl
import Derived.RowKit3
import Derived.Lib.Hide
import Derived.WalkSpells
import Derived.WalkLawsBesides
import Derived.Test.YtacbenjfiabegaaWWords
import Derived.Test.YtacbenjfiabegaaM5
import Derived.Deep.AppendLies
/- Words for the walks: bytes of the field in memory, and small laws on worlds. -/
namespace Go.Proofs.Ytacbenjfiabegaa
open Go.RowKit Go.Proofs.YtacbenjfiabegaaW.PrintWords Go.Proofs.Sh
/-- A byte of the field as a value. -/
def bV (a : F) : Value := .int .u8 (a.n : Int)
/-- Bytes in memory. -/
def kb : Kd F := Kd.scalar bV (fun _ => rfl)


theorem n_lt' (a : F) : (a.n : Int) < 256 := by have := a.n_lt; omega
theorem n_ge (a : F) : 0 ≤ (a.n : Int) := Int.natCast_nonneg _
/-! ### bytes that are read -/
/-- The value v reads, in the world w, as the list l of the kind d. -/
def Rk {α : Type} (d : Kd α) (w : World) (v : Value) (l : List α) : Prop := ∃ A c, v = .slice A l.length c ∧ l.length ≤ c ∧ d.C w A l.length l
/-- .. as bytes; as numbers; as bools; as lists of bytes. -/
abbrev Rb (w : World) (v : Value) (l : List F) : Prop := Rk kb w v l
abbrev Ri (w : World) (v : Value) (l : List Int) : Prop := Rk (Kd.int .i64) w v l
abbrev Rl (w : World) (v : Value) (l : List Bool) : Prop := Rk Kd.bool w v l
/-- Lists of bytes. -/
def kbb : Kd (List F) := Kd.slice 5 kb
abbrev Rbb (w : World) (v : Value) (l : List (List F)) : Prop := Rk kbb w v l
section
variable {α : Type} {d : Kd α} {w w' : World} {v : Value} {l : List α}
theorem Rk.below (h : Rk d w v l) (hb : Below w.heap.size w w') : Rk d w' v l := by
  obtain ⟨A, c, rfl, hc, hr⟩ := h
  exact ⟨A, c, rfl, hc, Kd.C_below hr hb⟩
theorem Rk.drew (h : Rk d w v l) : Rk d w.drew v l := h.below ((Below.refl _ _).drew)
theorem Rk.drewN (h : Rk d w v l) (n : Nat) : Rk d (w.drewN n) v l := h.below (pw_below_drewN (Below.refl _ _) n)
theorem Rk.alloc (h : Rk d w v l) (o : Obj) : Rk d (w.alloc o) v l := h.below (below_alloc (Below.refl _ _) o)
theorem Rk.drawn (h : Rk d w v l) (hd : Drawn0 w w') : Rk d w' v l := h.below hd.below
theorem Rk.nil (d : Kd α) (w : World) : Rk d w (.slice none 0 0) [] := ⟨none, 0, rfl, Nat.le_refl _, Kd.C_nil _ _⟩
/-- A row of the call's own: it reads. -/
theorem Rk.own {e base : Nat} {ok : Nat → Prop} (h : d.R e w base ok v l) : Rk d w v l := by
  obtain ⟨A, c, rfl, hc, hr⟩ := Kd.R_reads h
  exact ⟨A, c, rfl, hc, hr⟩
end
theorem kb_at {w : World} {A : Option Addr} {n : Nat} {l : List F} (h : kb.C w A n l) (k : Nat) (hk : k < n) : ∃ ad, A = some ad ∧ w.cell? (ad.add k) = some (.int .u8 ((l.getD k 0).n : Int)) := by
  obtain ⟨ad, c, e, _, hK, hc⟩ := Kd.C_get h 0 (k : Int) (by omega) (by omega)
  refine ⟨ad, e, ?_⟩
  have hK' : c = [bV (l.getD (k : Int).toNat 0)] := hK
  rw [Int.toNat_natCast] at hK'
  subst hK'
  have := hc 0 _ rfl
  simpa [kb, Kd.scalar, bV] using this
theorem kb_len {w : World} {A : Option Addr} {n : Nat} {l : List F} (h : kb.C w A n l) : n ≤ 9223372036854775807 := h.2.1
theorem kb_drawn {w w' : World} {A : Option Addr} {n : Nat} {l : List F} (h : kb.C w A n l) (hd : Drawn0 w w') : kb.C w' A n l := Kd.C_below h hd.below
theorem wrap_n (x : F) : wrap64 (x.n : Int) = x.n := by have := x.n_lt; unfold wrap64; omega
/-- A byte that came in, as an element of the field. -/
theorem F_of_int {a : Int} (h : (Lit.int .u8 a).wf = true) : ∃ x : F, a = (x.n : Int) := by
  have hb : 0 ≤ a ∧ a ≤ 255 := by simpa [Lit.wf, IntKind.min, IntKind.max, IntKind.signed, IntKind.bits] using h
  exact ⟨F.of a.toNat, by rw [F.n_of (by omega)]; omega⟩
/-! ### sums -/
theorem xor8 (a b : F) : Go.bits .xor .u8 (a.n : Int) (b.n : Int) = ((a + b).n : Int) := by
  rw [u8_xor_nat _ _ a.n_lt b.n_lt, F.add_n]
theorem i64_xor_nat (a b : Nat) (ha : a < 2 ^ 32) (hb : b < 2 ^ 32) : Go.bits .xor .i64 (a : Int) (b : Int) = ((a ^^^ b : Nat) : Int) := by
  have h : a ^^^ b < 2 ^ 32 := Nat.xor_lt_two_pow ha hb
  simp only [Go.bits, BitVec.ofInt_natCast, BitVec.toNat_xor, BitVec.toNat_ofNat]
  rw [Nat.mod_eq_of_lt (show a < 2 ^ IntKind.i64.bits from Nat.lt_of_lt_of_le ha (by decide)), Nat.mod_eq_of_lt (show b < 2 ^ IntKind.i64.bits from Nat.lt_of_lt_of_le hb (by decide)), IntKind.wrap_i64]
  omega
/-! ### a callee that only reads, inside a region that draws its order -/
theorem qd {P : Program} {f : FuncId} {args : Array Value} {w : World} {n : Nat} {v : Value}
    (h : Calls P f args (w.drewN n) fun e w' => e = .returned v ∧ Drawn0 (w.drewN n) w') : Calls P f args (w.drewN n) fun e w'' => e = .returned v ∧ ∃ m, w'' = w.drewN m :=
  h.mono fun _ _ ⟨he, ⟨m, hm⟩⟩ => ⟨he, n + m, by rw [hm, World.drewN_drewN]⟩
theorem qs {P : Program} {f : FuncId} {args : Array Value} {w : World} {n : Nat} {v : Value}
    (h : Calls P f args (w.drewN n) fun e w' => e = .returned v ∧ w.drewN n = w') : Calls P f args (w.drewN n) fun e w'' => e = .returned v ∧ ∃ m, w'' = w.drewN m :=
  h.mono fun _ _ ⟨he, hm⟩ => ⟨he, n, hm.symm⟩
/-! ### worlds -/
theorem drawn0_below {w w' : World} (h : Drawn0 w w') : Below w.heap.size w w' := h.below
theorem bt_ {w w1 w2 : World} (h : Below w.heap.size w w1) (k : Below w1.heap.size w1 w2) : Below w.heap.size w w2 := h.trans (k.mono h.size)
theorem bd {w w1 w2 : World} (h : Below w.heap.size w w1) (k : Drawn0 w1 w2) : Below w.heap.size w w2 := bt_ h k.below
theorem cell_set_same {w : World} {a : Addr} {u v : Value} (h : w.cell? a = some u) : (w.setCell a v).cell? a = some v := World.cell?_setCell_same _ _ _ h
theorem cell_set_ne {w : World} {b i j : Nat} {v : Value} (h : i ≠ j) : (w.setCell ⟨b, i, none⟩ v).cell? ⟨b, j, none⟩ = w.cell? ⟨b, j, none⟩ :=
  World.cell?_setCell_other _ _ _ _ (fun e => h (by injection e))
theorem frozen_set {w : World} {a b : Addr} {v : Value} : (w.setCell a v).frozen? b = w.frozen? b := World.frozen?_setCell _ _ _ _
end Go.Proofs.Ytacbenjfiabegaa

/- Laws of the walk for rows that a call makes itself: make, append. -/
namespace Go.Proofs.Ytacbenjfiabegaa
open Go.RowKit Go.Proofs.YtacbenjfiabegaaW.PrintWords Go.Proofs.Sh

/-- Anything. -/
abbrev T_ : Nat → Prop := fun _ => True
/-- A row of the call's own, made since w0. -/
def Own {α : Type} (d : Kd α) (e : Nat) (w0 w : World) (v : Value) (l : List α) : Prop := d.R e w w0.heap.size T_ v l
theorem Own.rk {α : Type} {d : Kd α} {e : Nat} {w0 w : World} {v : Value} {l : List α} (h : Own d e w0 w v l) : Rk d w v l := Rk.own h
theorem Own.below {α : Type} {d : Kd α} {e : Nat} {w0 w w' : World} {v : Value} {l : List α} (h : Own d e w0 w v l) (hb : Below w.heap.size w w') : Own d e w0 w' v l := Kd.R_below h hb
theorem Own.drawn {α : Type} {d : Kd α} {e : Nat} {w0 w w' : World} {v : Value} {l : List α} (h : Own d e w0 w v l) (hd : Drawn0 w w') : Own d e w0 w' v l := h.below hd.below
theorem Own.lower {α : Type} {d : Kd α} {e : Nat} {w0 w1 w : World} {v : Value} {l : List α} (h : Own d e w1 w v l) (hb : Below w0.heap.size w0 w1) : Own d e w0 w v l := Kd.R_lower h hb.size
theorem Own.nil {α : Type} (d : Kd α) (e : Nat) (w0 w : World) : Own d e w0 w (.slice none 0 0) [] := Kd.R_nil _ _ _ _ _
/-- By types: the rows of u are none of v's. -/
theorem apart_types {α β : Type} {d : Kd α} {d' : Kd β} {e e' : Nat} {W : World} {base base' : Nat} {ok ok' : Nat → Prop} {u v : Value} {l : List α} {xs : List β} (h : d.R e W base ok u l) (hv : d'.R e' W base' ok' v xs) (ht : ∀ q, q ∈ e :: d.E → q ≠ e') :
    d.R e W base (fun k => ok k ∧ some k ≠ v.ownBlock) u l :=
  Kd.R_mono (Kd.R_bound h) (fun k hk => ⟨hk.1, fun he => by
    obtain ⟨_, _, _, q, hq, cells, hc⟩ := hk
    obtain ⟨inner, ho⟩ := Kd.R_own hv
    obtain ⟨cells', hc'⟩ := own_typed ho k he.symm
    rw [hc] at hc'
    injection hc' with hc'
    injection hc' with _ hc'
    exact ht q hq hc'⟩)
/-- A block known whole. -/
def Blk (w : World) (b : Nat) (cs : Array Value) (t : TypeId) : Prop := w.heap[b]? = some (.cells cs t (0, 0))
theorem Blk.new (w : World) (cs : Array Value) (t : TypeId) : Blk (w.alloc (.cells cs t)) w.heap.size cs t := heap_alloc_new w _
theorem Blk.lt {w : World} {b : Nat} {cs : Array Value} {t : TypeId} (h : Blk w b cs t) : b < w.heap.size := (Array.getElem?_eq_some_iff.1 h).1
theorem Blk.below {w w1 : World} {b : Nat} {cs : Array Value} {t : TypeId} (h : Blk w b cs t) (hb : Below w.heap.size w w1) : Blk w1 b cs t := (hb.block b h.lt).trans h
theorem Blk.drawn {w w1 : World} {b : Nat} {cs : Array Value} {t : TypeId} (h : Blk w b cs t) (hd : Drawn0 w w1) : Blk w1 b cs t := h.below hd.below
theorem Blk.cell {w : World} {b : Nat} {cs : Array Value} {t : TypeId} (h : Blk w b cs t) (j : Nat) (v : Value) (hj : cs[j]? = some v) : w.cell? ⟨b, j, none⟩ = some v := by
  have h' : w.heap[b]? = some (.cells cs t (0, 0)) := h
  simp only [World.cell?, h']
  exact hj
/-- An append (a make) to a row of another element type leaves it. -/
theorem Blk.grown {α : Type} {d : Kd α} {e base : Nat} {ok : Nat → Prop} {w w1 : World} {b : Nat} {cs : Array Value} {t : TypeId} {v : Value} {l : List α} (h : Blk w b cs t) (hv : d.R e w base ok v l) (hne : e ≠ t) (hg : w.grownBy w1 v.ownBlock) : Blk w1 b cs t :=
  (hg.block b h.lt (Kd.R_ne hv h hne)).trans h
/-- A literal '[]T{..}' reads as what it says. -/
theorem lit_rk {α : Type} {enc : α → Value} {h1 : ∀ x, (enc x).oneCell' = true} (w : World) (l : List α) (cs : Array Value) (t : TypeId) (n c : Nat) (h : cs.toList = l.map enc) (hn : n = l.length) (hc : n ≤ c) (hm : n ≤ 9223372036854775807) :
    Rk (Kd.scalar enc h1) (w.alloc (.cells cs t)) (.slice (some ⟨w.heap.size, 0, none⟩) n c) l := by
  subst hn
  refine ⟨_, c, rfl, hc, rfl, hm, fun _ => ⟨_, rfl, fun j p hj => ⟨[enc p], rfl, rfl, fun i u hu => ?_⟩⟩⟩
  cases i with
  | zero =>
    have hv : enc p = u := by simpa using hu
    have hcs : cs[j]? = some (enc p) := by
      rw [← Array.getElem?_toList, h, List.getElem?_map, hj]
      rfl
    have ha : (⟨w.heap.size, 0, none⟩ : Addr).add (j * 1 + 0) = ⟨w.heap.size, j, none⟩ := by rw [add_plain, Nat.mul_one, Nat.add_zero]
    show (w.alloc (.cells cs t)).cell? ((⟨w.heap.size, 0, none⟩ : Addr).add (j * 1 + 0)) = some u
    rw [ha, World.cell?_alloc_new, hcs, hv]
  | succ i => simp at hu
theorem lit_b (w : World) (l : List F) (cs : Array Value) (t : TypeId) (n c : Nat) (h : cs.toList = l.map bV) (hn : n = l.length) (hc : n ≤ c) (hm : n ≤ 9223372036854775807) : Rb (w.alloc (.cells cs t)) (.slice (some ⟨w.heap.size, 0, none⟩) n c) l := lit_rk w l cs t n c h hn hc hm
theorem lit_i (w : World) (l : List Int) (cs : Array Value) (t : TypeId) (n c : Nat) (h : cs.toList = l.map (Value.int .i64)) (hn : n = l.length) (hc : n ≤ c) (hm : n ≤ 9223372036854775807) : Ri (w.alloc (.cells cs t)) (.slice (some ⟨w.heap.size, 0, none⟩) n c) l := lit_rk w l cs t n c h hn hc hm
theorem bV_eq {y : F} {z : Int} (h : (y.n : Int) = z) : bV y = .int .u8 z := by subst h; rfl
theorem iV_eq {k : IntKind} {y z : Int} (h : y = z) : Value.int k y = .int k z := by subst h; rfl
section
variable {P : Program} {ops : Array Oper} {rest : List Oper} {o : Oper} {a : Act} {Q : Exit → Act → World → Prop} {α : Type}
/-- append(v, y) of one number, byte or bool. -/
theorem app_one {enc : α → Value} {h1 : ∀ x, (enc x).oneCell' = true} {w0 W : World} (hgd : o.guard = none) (s x : Operand) (t e : TypeId) (z : Value) (bytes : Nat)
    (ho : o.op = .call { callee := .builtin .append, args := #[s, x], argTypes := #[t, t] })
    (ht : P.underlying t = some (.slice e)) (hinfo : (P.info? e).map (fun i => (i.zero, i.size, i.bytes)) = some (some z, 1, bytes)) (hz : z.cells.size = 1) (hb0 : 0 < bytes)
    (v : Value) (xs : List α) (y : α) (hs : a.eval s = v) (hx : a.eval x = .slice (some ⟨W.heap.size, 0, none⟩) 1 1)
    (c : Value) (hc : enc y = c) (HO : Own (Kd.scalar enc h1) e w0 W v xs) (HB : Below w0.heap.size w0 W) (hl : (xs.length + 1) * bytes ≤ 140737488355328)
    (h : ∀ v1 w1, Own (Kd.scalar enc h1) e w0 w1 v1 (xs ++ [y]) → Below w0.heap.size w0 w1 → W.grownBy w1 v.ownBlock → wpList P ops Q rest (a.put o.dst v1) w1) :
    wpList P ops Q (o :: rest) a (W.alloc (.cells #[c] e)) := by
  subst hc
  refine Kd.R_append (Kd.scalar enc h1) (w0 := w0) w0.heap.size hgd s x t e z bytes ho ht hinfo hz Nat.one_pos hb0 v xs y [enc y] T_ (fun _ => False) hs hx rfl (fun _ hk => hk.elim) (fun _ _ => trivial) HO HB HB.size hl ?_
  intro v1 w1 ho' hb' hg' _
  exact h v1 w1 ho' hb' hg'
/-- append(v, u) of a row of one's own. -/
theorem app_row {d : Kd α} {e' : Nat} {w0 W : World} (hgd : o.guard = none) (s x : Operand) (t e : TypeId)
    (ho : o.op = .call { callee := .builtin .append, args := #[s, x], argTypes := #[t, t] })
    (ht : P.underlying t = some (.slice e)) (hinfo : (P.info? e).map (fun i => (i.zero, i.size, i.bytes)) = some (some (.slice none 0 0), 1, 24)) (hne : ∀ q, q ∈ e' :: d.E → q ≠ e)
    (v : Value) (xs : List (List α)) (u : Value) (l : List α) (hs : a.eval s = v) (hx : a.eval x = .slice (some ⟨W.heap.size, 0, none⟩) 1 1)
    (HO : Own (Kd.slice e' d) e w0 W v xs) (HU : Own d e' w0 W u l) (HB : Below w0.heap.size w0 W) (hl : xs.length + 1 ≤ 5000000000)
    (h : ∀ v1 w1, Own (Kd.slice e' d) e w0 w1 v1 (xs ++ [l]) → Below w0.heap.size w0 w1 → W.grownBy w1 v.ownBlock → wpList P ops Q rest (a.put o.dst v1) w1) :
    wpList P ops Q (o :: rest) a (W.alloc (.cells #[u] e)) := by
  refine Kd.R_append (Kd.slice e' d) (w0 := w0) w0.heap.size hgd s x t e (.slice none 0 0) 24 ho ht hinfo rfl Nat.one_pos (by decide) v xs l [u] T_ (fun k => T_ k ∧ some k ≠ v.ownBlock) hs hx ⟨u, rfl, apart_types HU HO hne⟩ (fun _ hk => hk) (fun _ _ => trivial) HO HB HB.size (by omega) ?_
  intro v1 w1 ho' hb' hg' _
  exact h v1 w1 ho' hb' hg'
/-- make([]T, 0, n). -/
theorem mk_cap (d : Kd α) {w0 W : World} (hgd : o.guard = none) (t e : TypeId) (x y : Operand) (ho : o.op = .makeSlice t x y) (k : IntKind) (n : Int) (hx : a.eval x = .int k 0) (hy : a.eval y = .int .i64 n)
    (ht : P.underlying t = some (.slice e)) (z : Value) (bytes : Nat) (hinfo : (P.info? e).map (fun i => (i.zero, i.size, i.bytes)) = some (some z, d.sz, bytes)) (hb0 : 0 < bytes)
    (h0 : 0 ≤ n) (hl : n * bytes ≤ 281474976710656) (HB : Below w0.heap.size w0 W)
    (h : ∀ v1 w1, Own d e w0 w1 v1 [] → Below w0.heap.size w0 w1 → W.grownBy w1 none → wpList P ops Q rest (a.put o.dst v1) w1) : wpList P ops Q (o :: rest) a W := by
  obtain ⟨m, rfl⟩ := Int.eq_ofNat_of_zero_le h0
  obtain ⟨i0, hi, hzz⟩ := Option.map_eq_some_iff.1 hinfo
  simp only [Prod.mk.injEq] at hzz
  obtain ⟨hz0, hz1, hz2⟩ := hzz
  have hm : m * bytes ≤ 281474976710656 := by
    have : ((m * bytes : Nat) : Int) ≤ 281474976710656 := by rw [Int.natCast_mul]; exact hl
    omega
  have hm' : m ≤ 281474976710656 := Nat.le_trans (Nat.le_mul_of_pos_right _ hb0) hm
  obtain ⟨w1, hr, hown, hg⟩ := run_make_own (P := P) W w0.heap.size t e i0 z d.sz ht hi hz0 hz1 k .i64 m (by rw [hz2, Nat.mul_comm]; exact hm) (by unfold maxLen; omega) HB.size
  refine Kd.event_run hgd (v := .slice (some ⟨W.heap.size, 0, none⟩) 0 m) (w1 := w1) ?_ (h _ _ ⟨fun _ _ => trivial, [], hown, Reps.none _ _⟩ (HB.grown hg HB.size (fun k hk => by cases hk)) hg)
  simp [execOp, ho, hx, hy, hr]
/-- make([]T, n). -/
theorem mk_len (d : Kd α) {w0 W : World} (hgd : o.guard = none) {N : Tmp} (hd : o.dst = some N) (t e : TypeId) (x y : Operand) (ho : o.op = .makeSlice t x y) (n : Int) (hx : a.eval x = .int .i64 n) (hy : a.eval y = .int .i64 n)
    (ht : P.underlying t = some (.slice e)) (z : Value) (bytes : Nat) (hinfo : (P.info? e).map (fun i => (i.zero, i.size, i.bytes)) = some (some z, d.sz, bytes)) (hz : z.cells.size = d.sz) (hs0 : 0 < d.sz) (hb0 : 0 < bytes)
    (z0 : α) (hzero : d.M W w0.heap.size T_ z0 z.cells.toList) (h0 : 0 ≤ n) (hl : n * bytes ≤ 281474976710656) (HB : Below w0.heap.size w0 W)
    (h : ∀ v1 w1, Own d e w0 w1 v1 (List.replicate n.toNat z0) → Below w0.heap.size w0 w1 → W.grownBy w1 none → wpList P ops Q rest (a.put o.dst v1) w1) : wpList P ops Q (o :: rest) a W := by
  have hl' : n.toNat * bytes ≤ 281474976710656 := by
    obtain ⟨m, rfl⟩ := Int.eq_ofNat_of_zero_le h0
    have : ((m * bytes : Nat) : Int) ≤ 281474976710656 := by rw [Int.natCast_mul]; exact hl
    simp only [Int.toNat_natCast]
    omega
  refine Kd.R_make d (w0 := w0) w0.heap.size e hgd hd t x y ho n hx hy ht z bytes hinfo hz hs0 hb0 z0 (ok := T_) (okp := T_) hzero (fun _ _ => trivial) trivial h0 hl' HB HB.size ?_
  intro v1 w1 ho' hb' hg' _
  exact h v1 w1 ho' hb' hg'
end
theorem infoB : (Try.prog.info? 5).map (fun i => (i.zero, i.size, i.bytes)) = some (some (.int .u8 0), 1, 1) := by kernel_rfl
theorem infoI : (Try.prog.info? 3).map (fun i => (i.zero, i.size, i.bytes)) = some (some (.int .i64 0), 1, 8) := by kernel_rfl
theorem infoR : (Try.prog.info? 22).map (fun i => (i.zero, i.size, i.bytes)) = some (some (.slice none 0 0), 1, 24) := by kernel_rfl
/-- Bytes, numbers, lists of bytes of one's own. -/
abbrev Ob (w0 w : World) (v : Value) (l : List F) : Prop := Own kb 5 w0 w v l
abbrev Oi (w0 w : World) (v : Value) (l : List Int) : Prop := Own (Kd.int .i64) 3 w0 w v l
abbrev Obb (w0 w : World) (v : Value) (l : List (List F)) : Prop := Own kbb 22 w0 w v l
end Go.Proofs.Ytacbenjfiabegaa

/- Laws of the walk: append(v, u...) of bytes, in a plain region and in one that draws its order; helpers for regions. -/
namespace Go.Proofs.Ytacbenjfiabegaa
set_option linter.unusedVariables false
open Go.RowKit Go.Proofs.YtacbenjfiabegaaW.PrintWords Go.Proofs.Sh

theorem kb_cells {W : World} {A : Option Addr} {n : Nat} {l : List F} (h : kb.C W A n l) (hn : 0 < n) : ∃ ad, A = some ad ∧ ∀ j u, (l.map bV)[j]? = some u → W.cell? (ad.add j) = some u := by
  obtain ⟨ad, hA, hc⟩ := h.2.2 hn
  refine ⟨ad, hA, fun j u hu => ?_⟩
  rw [List.getElem?_map] at hu
  obtain ⟨x, hx, rfl⟩ := Option.map_eq_some_iff.1 hu
  obtain ⟨c, _, hK, hcell⟩ := hc j x hx
  have hK' : c = [bV x] := hK
  subst hK'
  have := hcell 0 _ rfl
  simpa [kb, Kd.scalar] using this
theorem own_b {w0 W : World} {v : Value} {xs : List F} (h : Own kb 5 w0 W v xs) : W.ownsRow w0.heap.size 5 1 v xs.length (xs.map bV) := Kd.own_of_R h
theorem b_own {w0 W : World} {v : Value} {xs : List F} (h : W.ownsRow w0.heap.size 5 1 v xs.length (xs.map bV)) : Own kb 5 w0 W v xs := Kd.R_of_own h (fun _ _ => trivial)
section
variable {ops : Array Oper} {rest : List Oper} {o : Oper} {a : Act} {K : Act → World → Prop} {Q : Exit → Act → World → Prop}
/-- append(v, u...) of bytes, at the operation. -/
theorem wp_app_b {w0 W : World} (s x : Operand) (ho : o.op = .call { callee := .builtin .append, args := #[s, x], argTypes := #[22, 22] })
    (v : Value) (xs : List F) (u : Value) (ys : List F) (hs : a.eval s = v) (hx : a.eval x = u) (HO : Own kb 5 w0 W v xs) (HU : Rb W u ys) (hy : 0 < ys.length) (HB : Below w0.heap.size w0 W) (hl : xs.length + ys.length ≤ 1000000000)
    (h : ∀ v1 w1, Own kb 5 w0 w1 v1 (xs ++ ys) → Below w0.heap.size w0 w1 → W.grownBy w1 v.ownBlock → K (a.put o.dst v1) w1) : o.wp Try.prog a W K Q := by
  obtain ⟨A, c, rfl, hc, hr⟩ := HU
  obtain ⟨ad, rfl, hnews⟩ := kb_cells hr hy
  obtain ⟨i0, hi, hzz⟩ := Option.map_eq_some_iff.1 infoB
  simp only [Prod.mk.injEq] at hzz
  obtain ⟨hz0, hz1, hz2⟩ := hzz
  refine wp_append_lies W s x 22 ho w0.heap.size 5 i0 (.int .u8 0) 1 1 Try.underlying22 hi hz0 hz1 hz2 rfl Nat.one_pos v xs.length (xs.map bV) hs (own_b HO) ad ys.length c (ys.map bV) hx (by simp) hnews
    (fun u hu => by obtain ⟨x, _, rfl⟩ := List.mem_map.1 hu; rfl) hy (by unfold maxLen; omega) (by omega) HB.size _ rfl ?_
  intro g cap w1 hown hg _ _
  refine h _ w1 (b_own ?_) (HB.grown hg HB.size (fun k hk => (own_base (own_b HO) k hk))) hg
  rw [List.length_append, List.map_append]
  exact hown
theorem wpList_app_b {w0 W : World} (hgd : o.guard = none) (s x : Operand) (ho : o.op = .call { callee := .builtin .append, args := #[s, x], argTypes := #[22, 22] })
    (v : Value) (xs : List F) (u : Value) (ys : List F) (hs : a.eval s = v) (hx : a.eval x = u) (HO : Own kb 5 w0 W v xs) (HU : Rb W u ys) (hy : 0 < ys.length) (HB : Below w0.heap.size w0 W) (hl : xs.length + ys.length ≤ 1000000000)
    (h : ∀ v1 w1, Own kb 5 w0 w1 v1 (xs ++ ys) → Below w0.heap.size w0 w1 → W.grownBy w1 v.ownBlock → wpList Try.prog ops Q rest (a.put o.dst v1) w1) : wpList Try.prog ops Q (o :: rest) a W :=
  wpList_plain hgd fun _ hK => wp_app_b s x ho v xs u ys hs hx HO HU hy HB hl fun v1 w1 h1 h2 h3 => hK _ _ (h v1 w1 h1 h2 h3)
theorem step_app_b {E : Prop} {w0 W : World} (hgd : o.guard = none) (s x : Operand) (ho : o.op = .call { callee := .builtin .append, args := #[s, x], argTypes := #[22, 22] })
    (v : Value) (xs : List F) (u : Value) (ys : List F) (hs : a.eval s = v) (hx : a.eval x = u) (HO : Own kb 5 w0 W v xs) (HU : Rb W u ys) (hy : 0 < ys.length) (HB : Below w0.heap.size w0 W) (hl : xs.length + ys.length ≤ 1000000000)
    (h : ∀ v1 w1, Own kb 5 w0 w1 v1 (xs ++ ys) → Below w0.heap.size w0 w1 → W.grownBy w1 v.ownBlock → K (a.put o.dst v1) w1) :
    if Region.wanted o (yielded ops a.tmps) = true then Oper.wp Try.prog o a W K Q else E := by
  have hw : Region.wanted o (yielded ops a.tmps) = true := by simp [Region.wanted, hgd]
  rw [if_pos hw]
  exact wp_app_b s x ho v xs u ys hs hx HO HU hy HB hl h
end
theorem bu {w w' : World} (h : Below w.drew.heap.size w.drew w') : Below w.heap.size w w' := ⟨h.os, h.tape, h.output, h.size, h.block⟩
theorem buN {w w' : World} {n : Nat} (h : Below (w.drewN n).heap.size (w.drewN n) w') : Below w.heap.size w w' := ⟨h.os, h.tape, h.output, h.size, h.block⟩
theorem wrapI (x : Int) (h1 : -9223372036854775808 ≤ x) (h2 : x ≤ 9223372036854775807) : IntKind.i64.wrap x = x := by rw [IntKind.wrap_i64]; omega
theorem cells6 {w : World} {b : Nat} {t : TypeId} {x0 x1 x2 x3 x4 x5 : Value} (h : Blk w b #[x0, x1, x2, x3, x4, x5] t) :
    w.cell? ⟨b, 0, none⟩ = some x0 ∧ w.cell? ⟨b, 1, none⟩ = some x1 ∧ w.cell? ⟨b, 2, none⟩ = some x2 ∧ w.cell? ⟨b, 3, none⟩ = some x3 ∧ w.cell? ⟨b, 4, none⟩ = some x4 ∧ w.cell? ⟨b, 5, none⟩ = some x5 :=
  ⟨h.cell 0 _ rfl, h.cell 1 _ rfl, h.cell 2 _ rfl, h.cell 3 _ rfl, h.cell 4 _ rfl, h.cell 5 _ rfl⟩
end Go.Proofs.Ytacbenjfiabegaa

/- Laws of the walk: elements of rows of bytes of one's own, read and written; make([]byte, n); copy. -/
namespace Go.Proofs.Ytacbenjfiabegaa
set_option linter.unusedVariables false
open Go.RowKit Go.Proofs.YtacbenjfiabegaaW.PrintWords Go.Proofs.Sh

theorem Ob.form {w0 w : World} {v : Value} {l : List F} (h : Ob w0 w v l) (hl : 0 < l.length) : ∃ g cap, v = .slice (some ⟨g, 0, none⟩) l.length cap ∧ w0.heap.size ≤ g ∧ g < w.heap.size := by
  have ho := own_b h
  obtain ⟨g, cap, hv, hb, hlt⟩ := ho.form hl
  exact ⟨g, cap, hv, hb, hlt⟩
theorem Ob.at {w0 w : World} {g n cap : Nat} {l : List F} (h : Ob w0 w (.slice (some ⟨g, 0, none⟩) n cap) l) (j : Nat) (hj : j < l.length) : w.cell? ⟨g, j, none⟩ = some (.int .u8 ((l.getD j 0).n : Int)) ∧ w.frozen? ⟨g, j, none⟩ = false := by
  have ho := own_b h
  constructor
  · have hc := ho.cells (g := g) rfl j (bV (l.getD j 0)) (by simp [List.getElem?_eq_getElem hj, List.getD_eq_getElem?_getD])
    rwa [add_plain] at hc
  · obtain ⟨cells, hc⟩ := own_typed ho g (by simp [Value.ownBlock])
    exact blk_frozen hc _
theorem Ob.set {w0 w : World} {g n cap : Nat} {l : List F} (h : Ob w0 w (.slice (some ⟨g, 0, none⟩) n cap) l) (j : Nat) (x : F) : Ob w0 (w.setCell ⟨g, j, none⟩ (.int .u8 (x.n : Int))) (.slice (some ⟨g, 0, none⟩) n cap) (l.set j x) ∧ w.grownBy (w.setCell ⟨g, j, none⟩ (.int .u8 (x.n : Int))) (some g) := by
  have hn : n = l.length := by obtain ⟨A, c, e, _, _⟩ := h.rk; injection e
  subst hn
  have hs := (own_b h).stored j (bV x)
  refine ⟨b_own ?_, hs.2⟩
  have := hs.1
  rw [List.length_set, List.map_set]
  exact this
/-- To halt a walk at an operation: 'go_wp2_with ((with_reducible refine gate_dst (N := 20) rfl ?_); refine halt ?_)', then 'refine ⟨?_⟩'. -/
structure Halt (p : Prop) : Prop where
  out : p
theorem halt {P : Program} {ops : Array Oper} {l : List Oper} {a : Act} {Q : Exit → Act → World → Prop} {W : World} (h : Halt (wpList P ops Q l a W)) : wpList P ops Q l a W := h.out
theorem take_snoc' {α : Type} (l : List α) (k : Nat) (z : α) (h : k < l.length) : l.take (k + 1) = l.take k ++ [l.getD k z] := by
  rw [List.take_succ_eq_append_getElem h]
  simp [List.getD_eq_getElem?_getD, h]
/-- A literal '[]byte{..}' is a row of one's own. -/
theorem lit_own {w0 W : World} (l : List F) (cs : Array Value) (h : cs.toList = l.map bV) (n : Nat) (hn : n = l.length) (hm : n ≤ 9223372036854775807) (hB : w0.heap.size ≤ W.heap.size) :
    Ob w0 (W.alloc (.cells cs 5)) (.slice (some ⟨W.heap.size, 0, none⟩) n n) l := by
  subst hn
  have ho := World.ownsRow_lit (base := w0.heap.size) (e := 5) (size := 1) W cs l.length hB (by simpa [maxLen] using hm) (by rw [Nat.mul_one, ← Array.length_toList, h, List.length_map])
  rw [h] at ho
  exact b_own ho
theorem Own.alloc {α : Type} {d : Kd α} {e : Nat} {w0 w : World} {v : Value} {l : List α} (h : Own d e w0 w v l) (o : Obj) : Own d e w0 (w.alloc o) v l := h.below (below_alloc (Below.refl _ _) o)
theorem infoC : (Try.prog.info? 5).map (·.size) = some 1 := by kernel_rfl
theorem copy_all (l : List F) : l.take (min l.length (List.replicate l.length (0 : F)).length) ++ (List.replicate l.length (0 : F)).drop (min l.length (List.replicate l.length (0 : F)).length) = l := by
  simp
end Go.Proofs.Ytacbenjfiabegaa
