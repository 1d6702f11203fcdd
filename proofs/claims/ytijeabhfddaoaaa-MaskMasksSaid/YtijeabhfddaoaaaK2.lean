/- Laws of the walk for rows that a call makes itself: make, append. -/
import Derived.Test.YtijeabhfddaoaaaK
namespace Go.Proofs.Ytijeabhfddaoaaa
open Go.RowKit Go.Proofs.YtijeabhfddaoaaaW.PrintWords Go.Proofs.Sh

/-- Anything. -/
abbrev T_ : Nat → Prop := fun _ => True
/-- A row of the call's own, made since w0. -/
def Own {α : Type} (d : Kd α) (e : Nat) (w0 w : World) (v : Value) (l : List α) : Prop := d.R e w w0.heap.size T_ v l
theorem Own.rk {α : Type} {d : Kd α} {e : Nat} {w0 w : World} {v : Value} {l : List α} (h : Own d e w0 w v l) : Rk d w v l := Rk.own h
theorem Own.below {α : Type} {d : Kd α} {e : Nat} {w0 w w' : World} {v : Value} {l : List α} (h : Own d e w0 w v l) (hb : Below w.heap.size w w') : Own d e w0 w' v l := Kd.R_below h hb
theorem Own.drawn {α : Type} {d : Kd α} {e : Nat} {w0 w w' : World} {v : Value} {l : List α} (h : Own d e w0 w v l) (hd : Drawn0 w w') : Own d e w0 w' v l := h.below hd.below
theorem Own.lower {α : Type} {d : Kd α} {e : Nat} {w0 w1 w : World} {v : Value} {l : List α} (h : Own d e w1 w v l) (hb : Below w0.heap.size w0 w1) : Own d e w0 w v l := Kd.R_lower h hb.size
theorem Own.nil {α : Type} (d : Kd α) (e : Nat) (w0 w : World) : Own d e w0 w (.slice none 0 0) [] := Kd.R_nil _ _ _ _ _
/-- By types: the rows of u are none of v's. -/
theorem apart_types {α β : Type} {d : Kd α} {d' : Kd β} {e e' : Nat} {W : World} {base base' : Nat} {ok ok' : Nat → Prop} {u v : Value} {l : List α} {xs : List β} (h : d.R e W base ok u l) (hv : d'.R e' W base' ok' v xs) (ht : ∀ q, q ∈ e :: d.E → q ≠ e') :
    d.R e W base (fun k => ok k ∧ some k ≠ v.ownBlock) u l :=
  Kd.R_mono (Kd.R_bound h) (fun k hk => ⟨hk.1, fun he => by
    obtain ⟨_, _, _, q, hq, cells, hc⟩ := hk
    obtain ⟨inner, ho⟩ := Kd.R_own hv
    obtain ⟨cells', hc'⟩ := own_typed ho k he.symm
    rw [hc] at hc'
    injection hc' with hc'
    injection hc' with _ hc'
    exact ht q hq hc'⟩)
/-- A block known whole. -/
def Blk (w : World) (b : Nat) (cs : Array Value) (t : TypeId) : Prop := w.heap[b]? = some (.cells cs t (0, 0))
theorem Blk.new (w : World) (cs : Array Value) (t : TypeId) : Blk (w.alloc (.cells cs t)) w.heap.size cs t := heap_alloc_new w _
theorem Blk.lt {w : World} {b : Nat} {cs : Array Value} {t : TypeId} (h : Blk w b cs t) : b < w.heap.size := (Array.getElem?_eq_some_iff.1 h).1
theorem Blk.below {w w1 : World} {b : Nat} {cs : Array Value} {t : TypeId} (h : Blk w b cs t) (hb : Below w.heap.size w w1) : Blk w1 b cs t := (hb.block b h.lt).trans h
theorem Blk.drawn {w w1 : World} {b : Nat} {cs : Array Value} {t : TypeId} (h : Blk w b cs t) (hd : Drawn0 w w1) : Blk w1 b cs t := h.below hd.below
theorem Blk.cell {w : World} {b : Nat} {cs : Array Value} {t : TypeId} (h : Blk w b cs t) (j : Nat) (v : Value) (hj : cs[j]? = some v) : w.cell? ⟨b, j, none⟩ = some v := by
  have h' : w.heap[b]? = some (.cells cs t (0, 0)) := h
  simp only [World.cell?, h']
  exact hj
/-- An append (a make) to a row of another element type leaves it. -/
theorem Blk.grown {α : Type} {d : Kd α} {e base : Nat} {ok : Nat → Prop} {w w1 : World} {b : Nat} {cs : Array Value} {t : TypeId} {v : Value} {l : List α} (h : Blk w b cs t) (hv : d.R e w base ok v l) (hne : e ≠ t) (hg : w.grownBy w1 v.ownBlock) : Blk w1 b cs t :=
  (hg.block b h.lt (Kd.R_ne hv h hne)).trans h
/-- A literal '[]T{..}' reads as what it says. -/
theorem lit_rk {α : Type} {enc : α → Value} {h1 : ∀ x, (enc x).oneCell' = true} (w : World) (l : List α) (cs : Array Value) (t : TypeId) (n c : Nat) (h : cs.toList = l.map enc) (hn : n = l.length) (hc : n ≤ c) (hm : n ≤ 9223372036854775807) :
    Rk (Kd.scalar enc h1) (w.alloc (.cells cs t)) (.slice (some ⟨w.heap.size, 0, none⟩) n c) l := by
  subst hn
  refine ⟨_, c, rfl, hc, rfl, hm, fun _ => ⟨_, rfl, fun j p hj => ⟨[enc p], rfl, rfl, fun i u hu => ?_⟩⟩⟩
  cases i with
  | zero =>
    have hv : enc p = u := by simpa using hu
    have hcs : cs[j]? = some (enc p) := by
      rw [← Array.getElem?_toList, h, List.getElem?_map, hj]
      rfl
    have ha : (⟨w.heap.size, 0, none⟩ : Addr).add (j * 1 + 0) = ⟨w.heap.size, j, none⟩ := by rw [add_plain, Nat.mul_one, Nat.add_zero]
    show (w.alloc (.cells cs t)).cell? ((⟨w.heap.size, 0, none⟩ : Addr).add (j * 1 + 0)) = some u
    rw [ha, World.cell?_alloc_new, hcs, hv]
  | succ i => simp at hu
theorem lit_b (w : World) (l : List F) (cs : Array Value) (t : TypeId) (n c : Nat) (h : cs.toList = l.map bV) (hn : n = l.length) (hc : n ≤ c) (hm : n ≤ 9223372036854775807) : Rb (w.alloc (.cells cs t)) (.slice (some ⟨w.heap.size, 0, none⟩) n c) l := lit_rk w l cs t n c h hn hc hm
theorem lit_i (w : World) (l : List Int) (cs : Array Value) (t : TypeId) (n c : Nat) (h : cs.toList = l.map (Value.int .i64)) (hn : n = l.length) (hc : n ≤ c) (hm : n ≤ 9223372036854775807) : Ri (w.alloc (.cells cs t)) (.slice (some ⟨w.heap.size, 0, none⟩) n c) l := lit_rk w l cs t n c h hn hc hm
theorem bV_eq {y : F} {z : Int} (h : (y.n : Int) = z) : bV y = .int .u8 z := by subst h; rfl
theorem iV_eq {k : IntKind} {y z : Int} (h : y = z) : Value.int k y = .int k z := by subst h; rfl
section
variable {P : Program} {ops : Array Oper} {rest : List Oper} {o : Oper} {a : Act} {Q : Exit → Act → World → Prop} {α : Type}
/-- append(v, y) of one number, byte or bool. -/
theorem app_one {enc : α → Value} {h1 : ∀ x, (enc x).oneCell' = true} {w0 W : World} (hgd : o.guard = none) (s x : Operand) (t e : TypeId) (z : Value) (bytes : Nat)
    (ho : o.op = .call { callee := .builtin .append, args := #[s, x], argTypes := #[t, t] })
    (ht : P.underlying t = some (.slice e)) (hinfo : (P.info? e).map (fun i => (i.zero, i.size, i.bytes)) = some (some z, 1, bytes)) (hz : z.cells.size = 1) (hb0 : 0 < bytes)
    (v : Value) (xs : List α) (y : α) (hs : a.eval s = v) (hx : a.eval x = .slice (some ⟨W.heap.size, 0, none⟩) 1 1)
    (c : Value) (hc : enc y = c) (HO : Own (Kd.scalar enc h1) e w0 W v xs) (HB : Below w0.heap.size w0 W) (hl : (xs.length + 1) * bytes ≤ 140737488355328)
    (h : ∀ v1 w1, Own (Kd.scalar enc h1) e w0 w1 v1 (xs ++ [y]) → Below w0.heap.size w0 w1 → W.grownBy w1 v.ownBlock → wpList P ops Q rest (a.put o.dst v1) w1) :
    wpList P ops Q (o :: rest) a (W.alloc (.cells #[c] e)) := by
  subst hc
  refine Kd.R_append (Kd.scalar enc h1) (w0 := w0) w0.heap.size hgd s x t e z bytes ho ht hinfo hz Nat.one_pos hb0 v xs y [enc y] T_ (fun _ => False) hs hx rfl (fun _ hk => hk.elim) (fun _ _ => trivial) HO HB HB.size hl ?_
  intro v1 w1 ho' hb' hg' _
  exact h v1 w1 ho' hb' hg'
/-- append(v, u) of a row of one's own. -/
theorem app_row {d : Kd α} {e' : Nat} {w0 W : World} (hgd : o.guard = none) (s x : Operand) (t e : TypeId)
    (ho : o.op = .call { callee := .builtin .append, args := #[s, x], argTypes := #[t, t] })
    (ht : P.underlying t = some (.slice e)) (hinfo : (P.info? e).map (fun i => (i.zero, i.size, i.bytes)) = some (some (.slice none 0 0), 1, 24)) (hne : ∀ q, q ∈ e' :: d.E → q ≠ e)
    (v : Value) (xs : List (List α)) (u : Value) (l : List α) (hs : a.eval s = v) (hx : a.eval x = .slice (some ⟨W.heap.size, 0, none⟩) 1 1)
    (HO : Own (Kd.slice e' d) e w0 W v xs) (HU : Own d e' w0 W u l) (HB : Below w0.heap.size w0 W) (hl : xs.length + 1 ≤ 5000000000)
    (h : ∀ v1 w1, Own (Kd.slice e' d) e w0 w1 v1 (xs ++ [l]) → Below w0.heap.size w0 w1 → W.grownBy w1 v.ownBlock → wpList P ops Q rest (a.put o.dst v1) w1) :
    wpList P ops Q (o :: rest) a (W.alloc (.cells #[u] e)) := by
  refine Kd.R_append (Kd.slice e' d) (w0 := w0) w0.heap.size hgd s x t e (.slice none 0 0) 24 ho ht hinfo rfl Nat.one_pos (by decide) v xs l [u] T_ (fun k => T_ k ∧ some k ≠ v.ownBlock) hs hx ⟨u, rfl, apart_types HU HO hne⟩ (fun _ hk => hk) (fun _ _ => trivial) HO HB HB.size (by omega) ?_
  intro v1 w1 ho' hb' hg' _
  exact h v1 w1 ho' hb' hg'
/-- make([]T, 0, n). -/
theorem mk_cap (d : Kd α) {w0 W : World} (hgd : o.guard = none) (t e : TypeId) (x y : Operand) (ho : o.op = .makeSlice t x y) (k : IntKind) (n : Int) (hx : a.eval x = .int k 0) (hy : a.eval y = .int .i64 n)
    (ht : P.underlying t = some (.slice e)) (z : Value) (bytes : Nat) (hinfo : (P.info? e).map (fun i => (i.zero, i.size, i.bytes)) = some (some z, d.sz, bytes)) (hb0 : 0 < bytes)
    (h0 : 0 ≤ n) (hl : n * bytes ≤ 281474976710656) (HB : Below w0.heap.size w0 W)
    (h : ∀ v1 w1, Own d e w0 w1 v1 [] → Below w0.heap.size w0 w1 → W.grownBy w1 none → wpList P ops Q rest (a.put o.dst v1) w1) : wpList P ops Q (o :: rest) a W := by
  obtain ⟨m, rfl⟩ := Int.eq_ofNat_of_zero_le h0
  obtain ⟨i0, hi, hzz⟩ := Option.map_eq_some_iff.1 hinfo
  simp only [Prod.mk.injEq] at hzz
  obtain ⟨hz0, hz1, hz2⟩ := hzz
  have hm : m * bytes ≤ 281474976710656 := by
    have : ((m * bytes : Nat) : Int) ≤ 281474976710656 := by rw [Int.natCast_mul]; exact hl
    omega
  have hm' : m ≤ 281474976710656 := Nat.le_trans (Nat.le_mul_of_pos_right _ hb0) hm
  obtain ⟨w1, hr, hown, hg⟩ := run_make_own (P := P) W w0.heap.size t e i0 z d.sz ht hi hz0 hz1 k .i64 m (by rw [hz2, Nat.mul_comm]; exact hm) (by unfold maxLen; omega) HB.size
  refine Kd.event_run hgd (v := .slice (some ⟨W.heap.size, 0, none⟩) 0 m) (w1 := w1) ?_ (h _ _ ⟨fun _ _ => trivial, [], hown, Reps.none _ _⟩ (HB.grown hg HB.size (fun k hk => by cases hk)) hg)
  simp [execOp, ho, hx, hy, hr]
/-- make([]T, n). -/
theorem mk_len (d : Kd α) {w0 W : World} (hgd : o.guard = none) {N : Tmp} (hd : o.dst = some N) (t e : TypeId) (x y : Operand) (ho : o.op = .makeSlice t x y) (n : Int) (hx : a.eval x = .int .i64 n) (hy : a.eval y = .int .i64 n)
    (ht : P.underlying t = some (.slice e)) (z : Value) (bytes : Nat) (hinfo : (P.info? e).map (fun i => (i.zero, i.size, i.bytes)) = some (some z, d.sz, bytes)) (hz : z.cells.size = d.sz) (hs0 : 0 < d.sz) (hb0 : 0 < bytes)
    (z0 : α) (hzero : d.M W w0.heap.size T_ z0 z.cells.toList) (h0 : 0 ≤ n) (hl : n * bytes ≤ 281474976710656) (HB : Below w0.heap.size w0 W)
    (h : ∀ v1 w1, Own d e w0 w1 v1 (List.replicate n.toNat z0) → Below w0.heap.size w0 w1 → W.grownBy w1 none → wpList P ops Q rest (a.put o.dst v1) w1) : wpList P ops Q (o :: rest) a W := by
  have hl' : n.toNat * bytes ≤ 281474976710656 := by
    obtain ⟨m, rfl⟩ := Int.eq_ofNat_of_zero_le h0
    have : ((m * bytes : Nat) : Int) ≤ 281474976710656 := by rw [Int.natCast_mul]; exact hl
    simp only [Int.toNat_natCast]
    omega
  refine Kd.R_make d (w0 := w0) w0.heap.size e hgd hd t x y ho n hx hy ht z bytes hinfo hz hs0 hb0 z0 (ok := T_) (okp := T_) hzero (fun _ _ => trivial) trivial h0 hl' HB HB.size ?_
  intro v1 w1 ho' hb' hg' _
  exact h v1 w1 ho' hb' hg'
end
theorem infoB : (Try.prog.info? 5).map (fun i => (i.zero, i.size, i.bytes)) = some (some (.int .u8 0), 1, 1) := by kernel_rfl
theorem infoI : (Try.prog.info? 3).map (fun i => (i.zero, i.size, i.bytes)) = some (some (.int .i64 0), 1, 8) := by kernel_rfl
theorem infoR : (Try.prog.info? 40).map (fun i => (i.zero, i.size, i.bytes)) = some (some (.slice none 0 0), 1, 24) := by kernel_rfl
/-- Bytes, numbers, lists of bytes of one's own. -/
abbrev Ob (w0 w : World) (v : Value) (l : List F) : Prop := Own kb 5 w0 w v l
abbrev Oi (w0 w : World) (v : Value) (l : List Int) : Prop := Own (Kd.int .i64) 3 w0 w v l
abbrev Obb (w0 w : World) (v : Value) (l : List (List F)) : Prop := Own kbb 40 w0 w v l
end Go.Proofs.Ytijeabhfddaoaaa
