/- Several texts of this seat, one behind the other. -/
import Derived.Test.YtijeabhfddaoaaaK7
/- Rows of one's own, each with a block of its own: 'out[k] = append(out[k], x)', 'out[k] = f(..)'. -/
namespace Go.Proofs.Ytijeabhfddaoaaa
set_option linter.unusedVariables false
open Go.RowKit Go.Proofs.YtijeabhfddaoaaaW.PrintWords Go.Proofs.Sh

structure Rws (w0 w : World) (g n : Nat) (vs : Nat → Value) (ls : Nat → List F) : Prop where
  base : w0.heap.size ≤ g
  blk : ∃ cs : Array Value, w.heap[g]? = some (.cells cs 40 (0, 0)) ∧ cs.size = n ∧ ∀ k, k < n → cs[k]? = some (vs k)
  own : ∀ k, k < n → Ob w0 w (vs k) (ls k)
  apart : ∀ i j, i < n → j < n → i ≠ j → NeRow (vs i) (vs j)
section
variable {w0 w w1 : World} {g n : Nat} {vs : Nat → Value} {ls ls' : Nat → List F}
theorem Rws.below (h : Rws w0 w g n vs ls) (hb : Below w.heap.size w w1) : Rws w0 w1 g n vs ls := by
  obtain ⟨cs, hc, hs, hk⟩ := h.blk
  exact ⟨h.base, ⟨cs, blk_below hc hb, hs, hk⟩, fun k hk => (h.own k hk).below hb, h.apart⟩
theorem Rws.drew (h : Rws w0 w g n vs ls) : Rws w0 w.drew g n vs ls := h.below (below_drew (Below.refl _ _))
theorem Rws.drewN (h : Rws w0 w g n vs ls) (m : Nat) : Rws w0 (w.drewN m) g n vs ls := h.below (pw_below_drewN (Below.refl _ _) m)
theorem Rws.congr (h : Rws w0 w g n vs ls) (he : ∀ k, k < n → ls k = ls' k) : Rws w0 w g n vs ls' := ⟨h.base, h.blk, fun k hk => he k hk ▸ h.own k hk, h.apart⟩
theorem Rws.cell (h : Rws w0 w g n vs ls) (k : Nat) (hk : k < n) : w.cell? ⟨g, k, none⟩ = some (vs k) := by
  obtain ⟨cs, hc, hs, hcs⟩ := h.blk
  rw [blk_cell hc, hcs k hk]
theorem Rws.frozen (h : Rws w0 w g n vs ls) (k : Nat) : w.frozen? ⟨g, k, none⟩ = false := by
  obtain ⟨cs, hc, hs, hcs⟩ := h.blk
  exact blk_frozen hc _
theorem grown_put (w : World) (g j : Nat) (u : Value) : w.grownBy (w.setCell ⟨g, j, none⟩ u) (some g) :=
  ⟨by first | rfl | simp [World.setCell], by first | rfl | simp [World.setCell], by first | rfl | simp [World.setCell], by simp [World.setCell], fun i hi hne => Below.heap_setCell w _ u i (fun e => hne (by rw [e]))⟩
theorem Rws.put (h : Rws w0 w g n vs ls) (k : Nat) (hk : k < n) {v1 : Value} {l : List F} (hO : Ob w0 w1 v1 l) (hg : w.grownBy w1 (vs k).ownBlock) (hat : v1.ownBlock = (vs k).ownBlock ∨ ∃ b, v1.ownBlock = some b ∧ w.heap.size ≤ b) :
    Rws w0 (w1.setCell ⟨g, k, none⟩ v1) g n (fun j => if j = k then v1 else vs j) (fun j => if j = k then l else ls j) := by
  obtain ⟨cs, hc, hs, hcs⟩ := h.blk
  have hgne : some g ≠ (vs k).ownBlock := own_ne (own_b (h.own k hk)) hc (by decide)
  have hc1 := blk_grown hc hg hgne
  have hv1 : some g ≠ v1.ownBlock := own_ne (own_b hO) hc1 (by decide)
  refine ⟨h.base, ⟨cs.setIfInBounds k v1, blk_set hc1 k v1, by rw [Array.size_setIfInBounds, hs], fun j hj => ?_⟩, fun j hj => ?_, fun i j hi hj hij => ?_⟩
  · by_cases e : j = k
    · subst e
      rw [if_pos rfl, Array.getElem?_setIfInBounds_self_of_lt (by omega)]
    · rw [if_neg e, Array.getElem?_setIfInBounds_ne (fun h => e h.symm)]
      exact hcs j hj
  · show Ob w0 _ (if j = k then v1 else vs j) (if j = k then l else ls j)
    by_cases e : j = k
    · subst e
      rw [if_pos rfl, if_pos rfl]
      exact Rk.far hO hv1 j v1
    · rw [if_neg e, if_neg e]
      have o1 : Ob w0 w1 (vs j) (ls j) := b_own (own_other (own_b (h.own j hj)) hg (ne_other (h.apart k j hk hj (fun h => e h.symm))))
      exact Rk.far o1 (own_ne (own_b o1) hc1 (by decide)) k v1
  · show NeRow (if i = k then v1 else vs i) (if j = k then v1 else vs j)
    by_cases e1 : i = k
    · subst e1
      rw [if_pos rfl, if_neg (fun e => hij e.symm)]
      exact ne_append (h.apart i j hi hj hij) hat (own_b (h.own j hj))
    · rw [if_neg e1]
      by_cases e2 : j = k
      · subst e2
        rw [if_pos rfl]
        exact ne_append' (h.apart i j hi hj hij) hat (own_b (h.own i hi))
      · rw [if_neg e2]
        exact h.apart i j hi hj hij
/-- The row's place, behind an append to it. -/
theorem Rws.slot (h : Rws w0 w g n vs ls) (k : Nat) (hk : k < n) (hg : w.grownBy w1 (vs k).ownBlock) : w1.cell? ⟨g, k, none⟩ = some (vs k) ∧ w1.frozen? ⟨g, k, none⟩ = false := by
  obtain ⟨cs, hc, hs, hcs⟩ := h.blk
  have hc1 := blk_grown hc hg (own_ne (own_b (h.own k hk)) hc (by decide))
  exact ⟨by rw [blk_cell hc1, hcs k hk], blk_frozen hc1 _⟩
theorem Rws.ne_blk (h : Rws w0 w g n vs ls) {b : Nat} {cs : Array Value} {t : TypeId} (hb : Blk w b cs t) (ht : t ≠ 40) : b ≠ g := by
  obtain ⟨cs', hc, hs, hcs⟩ := h.blk
  exact blk_ne hb hc ht
theorem Rws.lower {w9 : World} (h : Rws w0 w g n vs ls) (hb : Below w9.heap.size w9 w0) : Rws w9 w g n vs ls :=
  ⟨Nat.le_trans hb.size h.base, h.blk, fun k hk => (h.own k hk).lower hb, h.apart⟩
theorem Rws.grown (h : Rws w0 w g n vs ls) (k : Nat) (hk : k < n) {b : Nat} {cs : Array Value} {t : TypeId} (hb : Blk w b cs t) (ht : 5 ≠ t) (hg : w.grownBy w1 (vs k).ownBlock) : Blk w1 b cs t :=
  blk_grown hb hg (own_ne (own_b (h.own k hk)) hb ht)
theorem Rws.made (w0 w : World) (n : Nat) (hb : w0.heap.size ≤ w.heap.size) : Rws w0 (w.alloc (.cells (madeCells #[.slice none 0 0] n) 40)) w.heap.size n (fun _ => .slice none 0 0) (fun _ => []) :=
  ⟨hb, ⟨_, blk_new w _, by simp [size_madeCells], fun k hk => by simp [madeCells, Nat.mod_one, hk]⟩, fun _ _ => Own.nil _ _ _ _, fun _ _ _ _ _ => ne_nil _⟩
theorem Rws.reads (h : Rws w0 w g n vs ls) (hn : n ≤ 9223372036854775807) : Rbb w (.slice (some ⟨g, 0, none⟩) n n) ((List.range n).map ls) := by
  refine ⟨some ⟨g, 0, none⟩, n, by rw [List.length_map, List.length_range], by rw [List.length_map, List.length_range]; exact Nat.le_refl _, by rw [List.length_map, List.length_range], by rw [List.length_map, List.length_range]; exact hn, fun _ => ⟨_, rfl, fun j p hj => ?_⟩⟩
  rw [List.getElem?_map] at hj
  obtain ⟨k, hk, rfl⟩ := Option.map_eq_some_iff.1 hj
  obtain ⟨hk1, rfl⟩ : j < n ∧ k = j := by
    by_cases e : j < n
    · rw [List.getElem?_range e] at hk
      exact ⟨e, (Option.some.inj hk).symm⟩
    · rw [List.getElem?_eq_none (by rw [List.length_range]; omega)] at hk
      cases hk
  obtain ⟨A, c, e, hl, hr⟩ := (h.own k hk1).rk
  refine ⟨[vs k], rfl, ⟨A, c, by rw [e], hl, hr⟩, fun i u hu => ?_⟩
  cases i with
  | zero =>
    have hv : vs k = u := by simpa using hu
    have ha : (⟨g, 0, none⟩ : Addr).add (k * kbb.sz + 0) = ⟨g, k, none⟩ := by
      rw [show kbb.sz = 1 from rfl, add_plain, Nat.mul_one, Nat.add_zero]
    rw [ha, h.cell k hk1, hv]
  | succ i => simp at hu
end
section
variable {P : Program} {ops : Array Oper} {rest : List Oper} {o : Oper} {a : Act} {K : Act → World → Prop} {Q : Exit → Act → World → Prop} {α : Type} {E : Prop}
/-- make([]T, n), told by its cells. -/
theorem mk_raw {W : World} (hgd : o.guard = none) {N : Tmp} (hd : o.dst = some N) (t e : TypeId) (x y : Operand) (ho : o.op = .makeSlice t x y) (n : Nat) (hx : a.eval x = .int .i64 n) (hy : a.eval y = .int .i64 n)
    (ht : P.underlying t = some (.slice e)) (z : Value) (bytes : Nat) (hinfo : (P.info? e).map (fun i => (i.zero, i.size, i.bytes)) = some (some z, 1, bytes)) (hz : z.cells = #[z]) (hb0 : 0 < bytes) (hl : n * bytes ≤ 281474976710656)
    (h : wpList P ops Q rest (a.put o.dst (.slice (some ⟨W.heap.size, 0, none⟩) n n)) (W.alloc (.cells (madeCells #[z] n) e))) : wpList P ops Q (o :: rest) a W := by
  have hr := print_make_of t e z bytes ht hinfo hz hb0 n hl W
  refine Kd.event_run hgd (v := .slice (some ⟨W.heap.size, 0, none⟩) n n) (w1 := W.alloc (.cells (madeCells #[z] n) e)) ?_ h
  simp [execOp, ho, hx, hy, hr]
/-- As step_app_y; besides it tells where the row lies. -/
theorem step_app_z {ops : Array Oper} {o : Oper} {a : Act} {K : Act → World → Prop} {Q : Exit → Act → World → Prop} {E : Prop} {w0 W : World} (hgd : o.guard = none) (s x : Operand)
    (ho : o.op = .call { callee := .builtin .append, args := #[s, x], argTypes := #[40, 40] })
    (v : Value) (xs : List F) (y : F) (c : Int) (hs : a.eval s = v) (hx : a.eval x = .slice (some ⟨W.heap.size, 0, none⟩) 1 1) (hc : (y.n : Int) = c)
    (HO : Ob w0 W v xs) (HB : Below w0.heap.size w0 W) (hl : xs.length ≤ 1000000000)
    (h : ∀ v1 w1, Ob w0 w1 v1 (xs ++ [y]) → Below w0.heap.size w0 w1 → W.grownBy w1 v.ownBlock → (v1.ownBlock = v.ownBlock ∨ ∃ b, v1.ownBlock = some b ∧ W.heap.size ≤ b) → K (a.put o.dst v1) w1) :
    if Region.wanted o (yielded ops a.tmps) = true then Oper.wp Try.prog o a (W.alloc (.cells #[.int .u8 c] 5)) K Q else E := by
  subst hc
  have hw : Region.wanted o (yielded ops a.tmps) = true := by simp [Region.wanted, hgd]
  have := Kd.R_append_step (Kc := K) (Q := Q) kb (w0 := w0) w0.heap.size hw s x 40 5 (.int .u8 0) 1 ho Try.underlying40 infoB rfl Nat.one_pos Nat.one_pos v xs y [bV y] T_ (fun _ => False) hs hx rfl (fun _ hk => hk.elim) (fun _ _ => trivial) HO HB HB.size (by omega)
    (fun v1 w1 ho' hb' hg' hat => h v1 w1 ho' hb' hg' hat)
  rw [if_pos hw] at this ⊢
  exact this
/-- append(v, u...) of bytes, at the operation; besides it tells where the row lies. -/
theorem wp_app_z {o : Oper} {a : Act} {K : Act → World → Prop} {Q : Exit → Act → World → Prop} {w0 W : World} (s x : Operand) (ho : o.op = .call { callee := .builtin .append, args := #[s, x], argTypes := #[40, 40] })
    (v : Value) (xs : List F) (u : Value) (ys : List F) (hs : a.eval s = v) (hx : a.eval x = u) (HO : Ob w0 W v xs) (HU : Rb W u ys) (hy : 0 < ys.length) (HB : Below w0.heap.size w0 W) (hl : xs.length + ys.length ≤ 1000000000)
    (h : ∀ g n cap w1, Ob w0 w1 (.slice (some ⟨g, 0, none⟩) n cap) (xs ++ ys) → Below w0.heap.size w0 w1 → W.grownBy w1 v.ownBlock → ((Value.slice (some ⟨g, 0, none⟩) n cap).ownBlock = v.ownBlock ∨ ∃ b, (Value.slice (some ⟨g, 0, none⟩) n cap).ownBlock = some b ∧ W.heap.size ≤ b) → K (a.put o.dst (.slice (some ⟨g, 0, none⟩) n cap)) w1) : o.wp Try.prog a W K Q := by
  obtain ⟨A, c, rfl, hc, hr⟩ := HU
  obtain ⟨ad, rfl, hnews⟩ := kb_cells hr hy
  obtain ⟨i0, hi, hzz⟩ := Option.map_eq_some_iff.1 infoB
  simp only [Prod.mk.injEq] at hzz
  obtain ⟨hz0, hz1, hz2⟩ := hzz
  refine wp_append_lies W s x 40 ho w0.heap.size 5 i0 (.int .u8 0) 1 1 Try.underlying40 hi hz0 hz1 hz2 rfl Nat.one_pos v xs.length (xs.map bV) hs (own_b HO) ad ys.length c (ys.map bV) hx (by simp) hnews
    (fun u hu => by obtain ⟨x, _, rfl⟩ := List.mem_map.1 hu; rfl) hy (by unfold maxLen; omega) (by omega) HB.size _ rfl ?_
  intro g cap w1 hown hg hat _
  refine h g _ cap w1 (b_own ?_) (HB.grown hg HB.size (fun k hk => (own_base (own_b HO) k hk))) hg ?_
  · rw [List.length_append, List.map_append]
    exact hown
  · rcases hat with hat | hat
    · exact .inl hat.symm
    · exact .inr ⟨g, rfl, Nat.le_of_eq hat.symm⟩
end
end Go.Proofs.Ytijeabhfddaoaaa

/- Rows of rows, told by their cells alone: the rows inside are elder ones, that are only read. -/
namespace Go.Proofs.Ytijeabhfddaoaaa
set_option linter.unusedVariables false
open Go.RowKit Go.Proofs.YtijeabhfddaoaaaW.PrintWords Go.Proofs.Sh

/-- A value of one cell. -/
abbrev SV : Type := { v : Value // v.oneCell' = true }
def kv : Kd SV := Kd.scalar Subtype.val (fun y => y.2)
abbrev Ov (w0 w : World) (v : Value) (us : List SV) : Prop := Own kv 40 w0 w v us
theorem sv_of {w : World} {v : Value} {l : List F} (h : Rb w v l) : v.oneCell' = true := by
  obtain ⟨A, c, rfl⟩ := rk_form h
  rfl
theorem ov_reads {w0 w : World} {v : Value} {us : List SV} {ls : List (List F)} (h : Ov w0 w v us) (hl : us.length = ls.length) (hr : ∀ (j : Nat) (u : SV) (l : List F), us[j]? = some u → ls[j]? = some l → Rb w u.1 l) : Rbb w v ls := by
  obtain ⟨A, c, rfl, hc, hC⟩ := h.rk
  rw [hl] at hc hC ⊢
  refine ⟨A, c, rfl, hc, hC.1.symm ▸ hl.symm ▸ rfl, hC.2.1, fun hn => ?_⟩
  obtain ⟨ad, hA, hel⟩ := hC.2.2 hn
  refine ⟨ad, hA, fun j p hj => ?_⟩
  have hjl : j < us.length := by rw [hl]; exact (List.getElem?_eq_some_iff.1 hj).1
  obtain ⟨u, hu⟩ : ∃ u, us[j]? = some u := ⟨us[j], List.getElem?_eq_getElem hjl⟩
  obtain ⟨cs, hcl, hK, hcell⟩ := hel j u hu
  have hK' : cs = [u.1] := hK
  subst hK'
  obtain ⟨A', c', e, hc', hC'⟩ := hr j u p hu hj
  exact ⟨[u.1], rfl, ⟨A', c', by rw [e], hc', hC'⟩, hcell⟩
end Go.Proofs.Ytijeabhfddaoaaa
