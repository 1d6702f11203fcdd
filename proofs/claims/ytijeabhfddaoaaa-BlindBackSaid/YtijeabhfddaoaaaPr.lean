/- Rows of one's own in a row that was appended to, replaced one by one: 'parts[j] = f(parts[j], ..)'. -/
import Derived.Test.YtijeabhfddaoaaaKv
namespace Go.Proofs.Ytijeabhfddaoaaa
set_option linter.unusedVariables false
open Go.RowKit Go.Proofs.YtijeabhfddaoaaaW.PrintWords Go.Proofs.Sh

structure Prs (w0 w : World) (g n : Nat) (vs : Nat → Value) (ls : Nat → List F) : Prop where
  base : w0.heap.size ≤ g
  typ : ∃ cs : Array Value, w.heap[g]? = some (.cells cs 40 (0, 0)) ∧ n ≤ cs.size ∧ ∀ k, k < n → cs[k]? = some (vs k)
  own : ∀ k, k < n → Ob w0 w (vs k) (ls k)
section
variable {w0 w w1 : World} {g n : Nat} {vs : Nat → Value} {ls ls' : Nat → List F}
theorem Prs.below (h : Prs w0 w g n vs ls) (hb : Below w.heap.size w w1) : Prs w0 w1 g n vs ls := by
  obtain ⟨cs, hc, hs, hk⟩ := h.typ
  exact ⟨h.base, ⟨cs, blk_below hc hb, hs, hk⟩, fun k hk => (h.own k hk).below hb⟩
theorem Prs.congr (h : Prs w0 w g n vs ls) (he : ∀ k, k < n → ls k = ls' k) : Prs w0 w g n vs ls' := ⟨h.base, h.typ, fun k hk => he k hk ▸ h.own k hk⟩
theorem Prs.cell (h : Prs w0 w g n vs ls) (k : Nat) (hk : k < n) : w.cell? ⟨g, k, none⟩ = some (vs k) := by
  obtain ⟨cs, hc, hs, hcs⟩ := h.typ
  rw [blk_cell hc, hcs k hk]
theorem Prs.frozen (h : Prs w0 w g n vs ls) (k : Nat) : w.frozen? ⟨g, k, none⟩ = false := by
  obtain ⟨cs, hc, hs, hcs⟩ := h.typ
  exact blk_frozen hc _
theorem Prs.put (h : Prs w0 w g n vs ls) (k : Nat) (hk : k < n) {v1 : Value} {l : List F} (hO : Ob w0 w v1 l) : Prs w0 (w.setCell ⟨g, k, none⟩ v1) g n (fun j => if j = k then v1 else vs j) (fun j => if j = k then l else ls j) := by
  obtain ⟨cs, hc, hs, hcs⟩ := h.typ
  refine ⟨h.base, ⟨cs.setIfInBounds k v1, blk_set hc k v1, by rw [Array.size_setIfInBounds]; exact hs, fun j hj => ?_⟩, fun j hj => ?_⟩
  · by_cases e : j = k
    · subst e
      rw [if_pos rfl, Array.getElem?_setIfInBounds_self_of_lt (by omega)]
    · rw [if_neg e, Array.getElem?_setIfInBounds_ne (fun h => e h.symm)]
      exact hcs j hj
  · show Ob w0 _ (if j = k then v1 else vs j) (if j = k then l else ls j)
    by_cases e : j = k
    · subst e
      rw [if_pos rfl, if_pos rfl]
      exact Rk.far hO (own_ne (own_b hO) hc (by decide)) j v1
    · rw [if_neg e, if_neg e]
      exact Rk.far (h.own j hj) (own_ne (own_b (h.own j hj)) hc (by decide)) k v1
theorem Prs.reads (h : Prs w0 w g n vs ls) (c : Nat) (hc : n ≤ c) (hn : n ≤ 9223372036854775807) : Rbb w (.slice (some ⟨g, 0, none⟩) n c) ((List.range n).map ls) := by
  refine ⟨some ⟨g, 0, none⟩, c, by rw [List.length_map, List.length_range], by rw [List.length_map, List.length_range]; exact hc, by rw [List.length_map, List.length_range], by rw [List.length_map, List.length_range]; exact hn, fun _ => ⟨_, rfl, fun j p hj => ?_⟩⟩
  rw [List.getElem?_map] at hj
  obtain ⟨k, hk, rfl⟩ := Option.map_eq_some_iff.1 hj
  obtain ⟨hk1, rfl⟩ : j < n ∧ k = j := by
    by_cases e : j < n
    · rw [List.getElem?_range e] at hk
      exact ⟨e, (Option.some.inj hk).symm⟩
    · rw [List.getElem?_eq_none (by rw [List.length_range]; omega)] at hk
      cases hk
  obtain ⟨A, c, e, hl, hr⟩ := (h.own k hk1).rk
  refine ⟨[vs k], rfl, ⟨A, c, by rw [e], hl, hr⟩, fun i u hu => ?_⟩
  cases i with
  | zero =>
    have hv : vs k = u := by simpa using hu
    have ha : (⟨g, 0, none⟩ : Addr).add (k * kbb.sz + 0) = ⟨g, k, none⟩ := by
      rw [show kbb.sz = 1 from rfl, add_plain, Nat.mul_one, Nat.add_zero]
    rw [ha, h.cell k hk1, hv]
  | succ i => simp at hu
end
/-- Of rows that were appended. -/
theorem obb_prs {w0 w : World} {v : Value} {ls : List (List F)} (h : Obb w0 w v ls) (hn : 0 < ls.length) : ∃ g c vs, v = .slice (some ⟨g, 0, none⟩) ls.length c ∧ ls.length ≤ c ∧ Prs w0 w g ls.length vs (fun k => ls.getD k []) := by
  obtain ⟨g, cap, e, hb, hlt, cells, hcl⟩ := Kd.R_form h hn
  have hcap := rk_cap (show Rk kbb w (.slice (some ⟨g, 0, none⟩) ls.length cap) ls from e ▸ h.rk)
  subst e
  obtain ⟨_, inner, ho, hr⟩ := h
  have hget : ∀ k, k < ls.length → ∃ u, cells[k]? = some u ∧ Ob w0 w u (ls.getD k []) := fun k hk => by
    have hM := hr.2 k _ (List.getElem?_eq_getElem hk)
    obtain ⟨u, hu, hR⟩ := hM
    have hseg : (inner.drop (k * 1)).take 1 = [u] := hu
    have hin : inner[k]? = some u := by
      have := congrArg (fun l : List Value => l[0]?) hseg
      simpa [List.getElem?_take, List.getElem?_drop] using this
    have hc := ho.cells (g := g) rfl k u hin
    rw [add_plain, blk_cell hcl] at hc
    refine ⟨u, hc, ?_⟩
    have e : ls.getD k [] = ls[k] := by rw [List.getD_eq_getElem?_getD, List.getElem?_eq_getElem hk]; rfl
    rw [e]
    exact Kd.R_mono hR (fun _ _ => trivial)
  refine ⟨g, cap, fun k => (cells[k]?).getD undef, rfl, hcap, hb, ⟨cells, hcl, ?_, fun k hk => ?_⟩, fun k hk => ?_⟩
  · obtain ⟨u, hu, _⟩ := hget (ls.length - 1) (by omega)
    have := (Array.getElem?_eq_some_iff.1 hu).1
    omega
  · obtain ⟨u, hu, _⟩ := hget k hk
    rw [hu]
    rfl
  · obtain ⟨u, hu, hO⟩ := hget k hk
    show Ob w0 w ((cells[k]?).getD undef) _
    rw [hu]
    exact hO
end Go.Proofs.Ytijeabhfddaoaaa
