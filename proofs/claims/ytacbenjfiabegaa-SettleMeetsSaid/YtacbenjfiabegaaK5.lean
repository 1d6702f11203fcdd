/- Small laws on slices that are read. -/
import Derived.Test.YtacbenjfiabegaaK4
import Derived.Test.YtacbenjfiabegaaPlan2
namespace Go.Proofs.Ytacbenjfiabegaa
set_option linter.unusedVariables false
open Go.RowKit Go.Proofs.YtacbenjfiabegaaW.PrintWords Go.Proofs.Sh

/-- What a slice says. -/
theorem rk_C {α : Type} {d : Kd α} {w : World} {A : Option Addr} {n c : Nat} {l : List α} (h : Rk d w (.slice A n c) l) : d.C w A l.length l := by
  obtain ⟨A', c', e, _, h⟩ := h
  injection e with e1 e2 e3
  subst e1
  exact h
theorem rk_len {α : Type} {d : Kd α} {w : World} {A : Option Addr} {n c : Nat} {l : List α} (h : Rk d w (.slice A n c) l) : n = l.length := by
  obtain ⟨A', c', e, _, h⟩ := h
  injection e with e1 e2 e3
theorem rk_cap {α : Type} {d : Kd α} {w : World} {A : Option Addr} {n c : Nat} {l : List α} (h : Rk d w (.slice A n c) l) : l.length ≤ c := by
  obtain ⟨A', c', e, hc, h⟩ := h
  injection e with e1 e2 e3
  subst e3
  exact hc
theorem rk_form {α : Type} {d : Kd α} {w : World} {v : Value} {l : List α} (h : Rk d w v l) : ∃ A c, v = .slice A l.length c := by
  obtain ⟨A, c, rfl, _, _⟩ := h
  exact ⟨A, c, rfl⟩
section
variable {P : Program} {ops : Array Oper} {o : Oper} {a : Act} {K : Act → World → Prop} {Q : Exit → Act → World → Prop} {α : Type} {E : Prop}
/-- append(v, y) of one number, byte or bool, in a region that draws its order. -/
theorem step_app_one {enc : α → Value} {h1 : ∀ x, (enc x).oneCell' = true} {w0 W : World} (hgd : o.guard = none) (s x : Operand) (t e : TypeId) (z : Value) (bytes : Nat)
    (ho : o.op = .call { callee := .builtin .append, args := #[s, x], argTypes := #[t, t] })
    (ht : P.underlying t = some (.slice e)) (hinfo : (P.info? e).map (fun i => (i.zero, i.size, i.bytes)) = some (some z, 1, bytes)) (hz : z.cells.size = 1) (hb0 : 0 < bytes)
    (v : Value) (xs : List α) (y : α) (hs : a.eval s = v) (hx : a.eval x = .slice (some ⟨W.heap.size, 0, none⟩) 1 1)
    (c : Value) (hc : enc y = c) (HO : Own (Kd.scalar enc h1) e w0 W v xs) (HB : Below w0.heap.size w0 W) (hl : (xs.length + 1) * bytes ≤ 140737488355328)
    (h : ∀ v1 w1, Own (Kd.scalar enc h1) e w0 w1 v1 (xs ++ [y]) → Below w0.heap.size w0 w1 → W.grownBy w1 v.ownBlock → K (a.put o.dst v1) w1) :
    if Region.wanted o (yielded ops a.tmps) = true then Oper.wp P o a (W.alloc (.cells #[c] e)) K Q else E := by
  subst hc
  have hw : Region.wanted o (yielded ops a.tmps) = true := by simp [Region.wanted, hgd]
  have := Kd.R_append_step (Kc := K) (Q := Q) (Kd.scalar enc h1) (w0 := w0) w0.heap.size hw s x t e z bytes ho ht hinfo hz Nat.one_pos hb0 v xs y [enc y] T_ (fun _ => False) hs hx rfl (fun _ hk => hk.elim) (fun _ _ => trivial) HO HB HB.size hl
    (fun v1 w1 ho' hb' hg' _ => h v1 w1 ho' hb' hg')
  rw [if_pos hw] at this ⊢
  exact this
end
/-- Of bytes. -/
theorem step_app_y {ops : Array Oper} {o : Oper} {a : Act} {K : Act → World → Prop} {Q : Exit → Act → World → Prop} {E : Prop} {w0 W : World} (hgd : o.guard = none) (s x : Operand)
    (ho : o.op = .call { callee := .builtin .append, args := #[s, x], argTypes := #[22, 22] })
    (v : Value) (xs : List F) (y : F) (c : Int) (hs : a.eval s = v) (hx : a.eval x = .slice (some ⟨W.heap.size, 0, none⟩) 1 1) (hc : (y.n : Int) = c)
    (HO : Ob w0 W v xs) (HB : Below w0.heap.size w0 W) (hl : xs.length ≤ 1000000000)
    (h : ∀ v1 w1, Ob w0 w1 v1 (xs ++ [y]) → Below w0.heap.size w0 w1 → W.grownBy w1 v.ownBlock → K (a.put o.dst v1) w1) :
    if Region.wanted o (yielded ops a.tmps) = true then Oper.wp Try.prog o a (W.alloc (.cells #[.int .u8 c] 5)) K Q else E :=
  step_app_one hgd s x 22 5 (.int .u8 0) 1 ho Try.underlying22 infoB rfl Nat.one_pos v xs y hs hx _ (bV_eq hc) HO HB (by omega) h
/-- A part in the middle. -/
theorem rb_mid {w : World} {ad : Addr} {n c : Nat} {l : List F} (h : Rb w (.slice (some ad) n c) l) (lo k : Nat) (h1 : lo + k ≤ l.length) (h2 : lo < c) :
    Rb w (.slice (some (ad.add lo)) k (c - lo)) ((l.drop lo).take k) := by
  have hr := rk_C h
  have hc := rk_cap h
  have := Kd.C_mid (c := c) hr (Nat.le_add_right lo k) h1 hc
  rw [if_neg (by omega)] at this
  have e : (l.take (lo + k)).drop lo = (l.drop lo).take k := by rw [List.drop_take]; congr 1; omega
  rw [e] at this
  refine ⟨some (ad.add lo), c - lo, ?_, ?_, ?_⟩
  · rw [List.length_take, List.length_drop, Nat.min_eq_left (by omega)]
  · rw [List.length_take, List.length_drop]; omega
  · have hm : (Option.map (fun x => x.add (lo * kb.sz)) (some ad)) = some (ad.add lo) := by
      show some (ad.add (lo * 1)) = _
      rw [Nat.mul_one]
    rw [hm] at this
    exact this
/-- Variables in boxes, one behind the other. -/
theorem Blk.alloc {w : World} {b : Nat} {cs : Array Value} {t : TypeId} (h : Blk w b cs t) (o : Obj) : Blk (w.alloc o) b cs t := h.below (below_alloc (Below.refl _ _) o)
theorem Blk.new' (w : World) (cs : Array Value) (t : TypeId) {n : Nat} (hn : w.heap.size = n) : Blk (w.alloc (.cells cs t)) n cs t := by
  subst hn
  exact Blk.new w cs t
theorem Blk.one {w : World} {b : Nat} {v : Value} {t : TypeId} (h : Blk w b #[v] t) : w.cell? ⟨b, 0, none⟩ = some v := h.cell 0 _ rfl
structure Box4 (w : World) (b : Nat) (c1 : Array Value) (t1 : TypeId) (c2 : Array Value) (t2 : TypeId) (c3 : Array Value) (t3 : TypeId) (c4 : Array Value) (t4 : TypeId) : Prop where
  k1 : Blk w b c1 t1
  k2 : Blk w (b + 1) c2 t2
  k3 : Blk w (b + 2) c3 t3
  k4 : Blk w (b + 3) c4 t4
theorem Box4.below {w w1 : World} {b : Nat} {c1 c2 c3 c4 : Array Value} {t1 t2 t3 t4 : TypeId} (h : Box4 w b c1 t1 c2 t2 c3 t3 c4 t4) (hb : Below w.heap.size w w1) : Box4 w1 b c1 t1 c2 t2 c3 t3 c4 t4 :=
  ⟨h.k1.below hb, h.k2.below hb, h.k3.below hb, h.k4.below hb⟩
theorem box4 (w : World) (c1 : Array Value) (t1 : TypeId) (c2 : Array Value) (t2 : TypeId) (c3 : Array Value) (t3 : TypeId) (c4 : Array Value) (t4 : TypeId) :
    Box4 ((((w.alloc (.cells c1 t1)).alloc (.cells c2 t2)).alloc (.cells c3 t3)).alloc (.cells c4 t4)) w.heap.size c1 t1 c2 t2 c3 t3 c4 t4 ∧
    Below w.heap.size w ((((w.alloc (.cells c1 t1)).alloc (.cells c2 t2)).alloc (.cells c3 t3)).alloc (.cells c4 t4)) ∧
    ((((w.alloc (.cells c1 t1)).alloc (.cells c2 t2)).alloc (.cells c3 t3)).alloc (.cells c4 t4)).heap.size = w.heap.size + 4 := by
  refine ⟨⟨(((Blk.new w c1 t1).alloc _).alloc _).alloc _, ((Blk.new' _ c2 t2 (by rw [World.size_alloc])).alloc _).alloc _, (Blk.new' _ c3 t3 (by rw [World.size_alloc, World.size_alloc])).alloc _, Blk.new' _ c4 t4 (by rw [World.size_alloc, World.size_alloc, World.size_alloc])⟩, ?_, ?_⟩
  · exact below_alloc (below_alloc (below_alloc (below_alloc (Below.refl _ _) _) _) _) _
  · rw [World.size_alloc, World.size_alloc, World.size_alloc, World.size_alloc]
structure Box5 (w : World) (b : Nat) (c1 : Array Value) (t1 : TypeId) (c2 : Array Value) (t2 : TypeId) (c3 : Array Value) (t3 : TypeId) (c4 : Array Value) (t4 : TypeId) (c5 : Array Value) (t5 : TypeId) : Prop where
  k1 : Blk w b c1 t1
  k2 : Blk w (b + 1) c2 t2
  k3 : Blk w (b + 2) c3 t3
  k4 : Blk w (b + 3) c4 t4
  k5 : Blk w (b + 4) c5 t5
theorem Box5.below {w w1 : World} {b : Nat} {c1 c2 c3 c4 c5 : Array Value} {t1 t2 t3 t4 t5 : TypeId} (h : Box5 w b c1 t1 c2 t2 c3 t3 c4 t4 c5 t5) (hb : Below w.heap.size w w1) : Box5 w1 b c1 t1 c2 t2 c3 t3 c4 t4 c5 t5 :=
  ⟨h.k1.below hb, h.k2.below hb, h.k3.below hb, h.k4.below hb, h.k5.below hb⟩
theorem box5 (w : World) (c1 : Array Value) (t1 : TypeId) (c2 : Array Value) (t2 : TypeId) (c3 : Array Value) (t3 : TypeId) (c4 : Array Value) (t4 : TypeId) (c5 : Array Value) (t5 : TypeId) :
    Box5 (((((w.alloc (.cells c1 t1)).alloc (.cells c2 t2)).alloc (.cells c3 t3)).alloc (.cells c4 t4)).alloc (.cells c5 t5)) w.heap.size c1 t1 c2 t2 c3 t3 c4 t4 c5 t5 ∧
    Below w.heap.size w (((((w.alloc (.cells c1 t1)).alloc (.cells c2 t2)).alloc (.cells c3 t3)).alloc (.cells c4 t4)).alloc (.cells c5 t5)) ∧
    (((((w.alloc (.cells c1 t1)).alloc (.cells c2 t2)).alloc (.cells c3 t3)).alloc (.cells c4 t4)).alloc (.cells c5 t5)).heap.size = w.heap.size + 5 := by
  obtain ⟨⟨a1, a2, a3, a4⟩, hB, hz⟩ := box4 w c1 t1 c2 t2 c3 t3 c4 t4
  exact ⟨⟨a1.alloc _, a2.alloc _, a3.alloc _, a4.alloc _, Blk.new' _ c5 t5 hz⟩, below_alloc hB _, by rw [World.size_alloc, hz]⟩
/-- A plan's numbers. -/
theorem Pl.Ok.nats {p : Pl} (h : p.Ok) : ∃ T L N : Nat, p.T = T ∧ p.L = L ∧ p.N = N ∧ 1 ≤ T ∧ 1 ≤ L ∧ T + L ≤ N ∧ N + L ≤ 256 :=
  ⟨p.T.toNat, p.L.toNat, p.N.toNat, by have := h.t; omega, by have := h.l; omega, by have := h.t; have := h.l; have := h.tl; have := h.wn; omega, by have := h.t; omega, by have := h.l; omega,
    by have := h.t; have := h.l; have := h.tl; have := h.wn; omega, by have := h.t; have := h.l; have := h.nl; have := h.tl; have := h.wn; omega⟩
theorem ba {w w' : World} {o : Obj} (h : Below (w.alloc o).heap.size (w.alloc o) w') : Below w.heap.size w w' := bt_ (below_alloc (Below.refl _ _) o) h
/-- A box that was made ahead of a call. -/
theorem new_blk {w w' : World} {cs : Array Value} {t : TypeId} (h : Below (w.alloc (.cells cs t)).heap.size (w.alloc (.cells cs t)) w') : Blk w' w.heap.size cs t := (Blk.new w cs t).below h
theorem new_blkd {w w' : World} {cs : Array Value} {t : TypeId} (h : Below (w.drew.alloc (.cells cs t)).heap.size (w.drew.alloc (.cells cs t)) w') : Blk w' w.heap.size cs t := new_blk (w := w.drew) h
theorem new_blkN {w w' : World} {n : Nat} {cs : Array Value} {t : TypeId} (h : Below ((w.drewN n).alloc (.cells cs t)).heap.size ((w.drewN n).alloc (.cells cs t)) w') : Blk w' w.heap.size cs t := new_blk (w := w.drewN n) h
theorem Box4.alloc {w : World} {b : Nat} {c1 c2 c3 c4 : Array Value} {t1 t2 t3 t4 : TypeId} (h : Box4 w b c1 t1 c2 t2 c3 t3 c4 t4) (o : Obj) : Box4 (w.alloc o) b c1 t1 c2 t2 c3 t3 c4 t4 := h.below (below_alloc (Below.refl _ _) o)
/-- A store into a box leaves the elder ones. -/
theorem Blk.far {w : World} {b g : Nat} {cs : Array Value} {t : TypeId} (h : Blk w b cs t) (hne : b ≠ g) (j : Nat) (v : Value) : Blk (w.setCell ⟨g, j, none⟩ v) b cs t := blk_far h hne v
theorem Blk.put {w : World} {g : Nat} {v0 : Value} {t : TypeId} (h : Blk w g #[v0] t) (v : Value) : Blk (w.setCell ⟨g, 0, none⟩ v) g #[v] t := blk_set h 0 v
theorem Box4.far {w : World} {b g : Nat} {c1 c2 c3 c4 : Array Value} {t1 t2 t3 t4 : TypeId} (h : Box4 w b c1 t1 c2 t2 c3 t3 c4 t4) (hne : b + 4 ≤ g) (j : Nat) (v : Value) : Box4 (w.setCell ⟨g, j, none⟩ v) b c1 t1 c2 t2 c3 t3 c4 t4 :=
  ⟨h.k1.far (by omega) j v, h.k2.far (by omega) j v, h.k3.far (by omega) j v, h.k4.far (by omega) j v⟩
theorem Rk.far {w0 w : World} {v : Value} {l : List F} {g : Nat} (h : Ob w0 w v l) (hne : some g ≠ v.ownBlock) (j : Nat) (u : Value) : Ob w0 (w.setCell ⟨g, j, none⟩ u) v l := b_own (own_setCell (own_b h) (p := ⟨g, j, none⟩) hne u)
/-- A row of bytes lives on while a row of rows is appended to. -/
theorem Ob.grown {w0 w0' w w1 : World} {v u : Value} {l : List F} {ls : List (List F)} (h : Ob w0 w v l) (hO : Obb w0' w u ls) (hg : w.grownBy w1 u.ownBlock) : Ob w0 w1 v l := by
  obtain ⟨_, inner, hown, _⟩ := hO
  exact b_own (own_other (own_b h) hg (own_type_ne (own_b h) hown (by decide)))
/-- append(v, u) of a row of one's own, in a region that draws its order. -/
theorem step_app_r {ops : Array Oper} {o : Oper} {a : Act} {K : Act → World → Prop} {Q : Exit → Act → World → Prop} {E : Prop} {w0 W : World} (hgd : o.guard = none) (s x : Operand)
    (ho : o.op = .call { callee := .builtin .append, args := #[s, x], argTypes := #[144, 144] })
    (v : Value) (xs : List (List F)) (u : Value) (l : List F) (hs : a.eval s = v) (hx : a.eval x = .slice (some ⟨W.heap.size, 0, none⟩) 1 1)
    (HO : Obb w0 W v xs) (HU : Ob w0 W u l) (HB : Below w0.heap.size w0 W) (hl : xs.length + 1 ≤ 1000000000)
    (h : ∀ v1 w1, Obb w0 w1 v1 (xs ++ [l]) → Below w0.heap.size w0 w1 → W.grownBy w1 v.ownBlock → K (a.put o.dst v1) w1) :
    if Region.wanted o (yielded ops a.tmps) = true then Oper.wp Try.prog o a (W.alloc (.cells #[u] 22)) K Q else E := by
  have hw : Region.wanted o (yielded ops a.tmps) = true := by simp [Region.wanted, hgd]
  have := Kd.R_append_step (Kc := K) (Q := Q) kbb (w0 := w0) w0.heap.size hw s x 144 22 (.slice none 0 0) 24 ho Try.underlying144 infoR rfl Nat.one_pos (by decide) v xs l [u] T_ (fun k => T_ k ∧ some k ≠ v.ownBlock) hs hx ⟨u, rfl, apart_types HU HO (by decide)⟩ (fun _ hk => hk) (fun _ _ => trivial) HO HB HB.size (by omega)
    (fun v1 w1 ho' hb' hg' _ => h v1 w1 ho' hb' hg')
  rw [if_pos hw] at this ⊢
  exact this
/-- A row among rows. -/
theorem kbb_at {w : World} {A : Option Addr} {n : Nat} {l : List (List F)} (h : kbb.C w A n l) (k : Nat) (hk : k < n) : ∃ ad u, A = some ad ∧ w.cell? (ad.add k) = some u ∧ Rb w u (l.getD k []) := by
  obtain ⟨ad, c, e, _, hK, hc⟩ := Kd.C_get h [] (k : Int) (by omega) (by omega)
  obtain ⟨A', n', hc', hl, hr⟩ := hK
  subst hc'
  rw [Int.toNat_natCast] at hl hr hc
  refine ⟨ad, _, e, ?_, ⟨A', n', rfl, hl, hr⟩⟩
  have := hc 0 _ rfl
  have h1 : kbb.sz = 1 := rfl
  rw [h1, Nat.mul_one, Nat.add_zero] at this
  exact this
theorem Rbb.len {w : World} {A : Option Addr} {n c : Nat} {l : List (List F)} (h : Rbb w (.slice A n c) l) : n = l.length := rk_len h
theorem Ob.take {w0 w : World} {A : Option Addr} {n c m : Nat} {l : List F} (h : Ob w0 w (.slice A n c) l) (hm : m ≤ l.length) : Ob w0 w (.slice A m c) (l.take m) := Kd.R_take h hm
/-- A rest. -/
theorem rk_drop {α : Type} {d : Kd α} {w : World} {ad : Addr} {n c m : Nat} {l : List α} (h : Rk d w (.slice (some ad) n c) l) (hm : m ≤ l.length) (hd : d.sz = 1) (hc : m < c) : Rk d w (.slice (some (ad.add m)) (l.length - m) (c - m)) (l.drop m) := by
  have hr := rk_C h
  have hcap := rk_cap h
  have := Kd.C_drop (c := c) hr hm hcap
  rw [if_neg (by omega)] at this
  have hm' : (Option.map (fun x => x.add (m * d.sz)) (some ad)) = some (ad.add m) := by
    show some (ad.add (m * d.sz)) = _
    rw [hd, Nat.mul_one]
  rw [hm'] at this
  exact ⟨some (ad.add m), c - m, by rw [List.length_drop], by rw [List.length_drop]; omega, this⟩
theorem ob_slice {w0 w : World} {A : Option Addr} {n c : Nat} {l : List F} (h : Ob w0 w (.slice A n c) l) : n = l.length ∧ l.length ≤ c := ⟨rk_len h.rk, rk_cap h.rk⟩
end Go.Proofs.Ytacbenjfiabegaa
