/- The walk of matrix.Unit; laws of rows of one's own whose bytes are changed. -/
import Derived.Test.YtijeabhfddaoaaaMx
namespace Go.Proofs.Ytijeabhfddaoaaa
set_option linter.unusedVariables false
open Go.RowKit Go.Proofs.YtijeabhfddaoaaaW.PrintWords Go.Proofs.Sh

section
variable {w0 w w1 : World} {g n : Nat} {vs : Nat → Value} {ls ls' : Nat → List F}
/-- A row's bytes are changed. -/
theorem Rws.touch (h : Rws w0 w g n vs ls) (k : Nat) (hk : k < n) {l : List F} (hO : Ob w0 w1 (vs k) l) (hg : w.grownBy w1 (vs k).ownBlock) : Rws w0 w1 g n vs (fun j => if j = k then l else ls j) := by
  obtain ⟨cs, hc, hs, hcs⟩ := h.blk
  refine ⟨h.base, ⟨cs, blk_grown hc hg (own_ne (own_b (h.own k hk)) hc (by decide)), hs, hcs⟩, fun j hj => ?_, h.apart⟩
  show Ob w0 _ (vs j) (if j = k then l else ls j)
  by_cases e : j = k
  · subst e
    rw [if_pos rfl]
    exact hO
  · rw [if_neg e]
    exact b_own (own_other (own_b (h.own j hj)) hg (ne_other (h.apart k j hk hj (fun h => e h.symm))))
/-- Something else is changed. -/
theorem Rws.keep (h : Rws w0 w g n vs ls) {row : Option Nat} (hg : w.grownBy w1 row) (h1 : some g ≠ row) (h2 : ∀ j, j < n → (vs j).ownBlock = none ∨ (vs j).ownBlock ≠ row) : Rws w0 w1 g n vs ls := by
  obtain ⟨cs, hc, hs, hcs⟩ := h.blk
  exact ⟨h.base, ⟨cs, blk_grown hc hg h1, hs, hcs⟩, fun j hj => b_own (own_other (own_b (h.own j hj)) hg (h2 j hj)), h.apart⟩
/-- The row's block is not one of its rows' own. -/
theorem Rws.ne_own (h : Rws w0 w g n vs ls) (k : Nat) (hk : k < n) : some g ≠ (vs k).ownBlock := by
  obtain ⟨cs, hc, hs, hcs⟩ := h.blk
  exact own_ne (own_b (h.own k hk)) hc (by decide)
/-- A row is put in a place. -/
theorem Rws.store (h : Rws w0 w g n vs ls) (k : Nat) (v : Value) : ∃ cs : Array Value, (w.setCell ⟨g, k, none⟩ v).heap[g]? = some (.cells cs 40 (0, 0)) ∧ cs.size = n ∧ ∀ j, j < n → cs[j]? = some (if j = k then v else vs j) := by
  obtain ⟨cs, hc, hs, hcs⟩ := h.blk
  refine ⟨cs.setIfInBounds k v, blk_set hc k v, by rw [Array.size_setIfInBounds, hs], fun j hj => ?_⟩
  by_cases e : j = k
  · subst e
    rw [if_pos rfl, Array.getElem?_setIfInBounds_self_of_lt (by omega)]
  · rw [if_neg e, Array.getElem?_setIfInBounds_ne (fun h => e h.symm)]
    exact hcs j hj
def swv {α : Type} (vs : Nat → α) (i k : Nat) : Nat → α := fun r => if r = k then vs i else if r = i then vs k else vs r
/-- Two rows change places. -/
theorem Rws.swap (h : Rws w0 w g n vs ls) (i k : Nat) (hi : i < n) (hk : k < n) : Rws w0 ((w.setCell ⟨g, i, none⟩ (vs k)).setCell ⟨g, k, none⟩ (vs i)) g n (swv vs i k) (swv ls i k) := by
  obtain ⟨cs, hc, hs, hcs⟩ := h.blk
  have hc1 := blk_set hc i (vs k)
  have hc2 := blk_set hc1 k (vs i)
  refine ⟨h.base, ⟨_, hc2, by rw [Array.size_setIfInBounds, Array.size_setIfInBounds, hs], fun j hj => ?_⟩, fun j hj => ?_, fun a b ha hb hab => ?_⟩
  · unfold swv
    by_cases e : j = k
    · subst e
      rw [if_pos rfl, Array.getElem?_setIfInBounds_self_of_lt (by rw [Array.size_setIfInBounds]; omega)]
    · rw [if_neg e, Array.getElem?_setIfInBounds_ne (fun h => e h.symm)]
      by_cases e2 : j = i
      · subst e2
        rw [if_pos rfl, Array.getElem?_setIfInBounds_self_of_lt (by omega)]
      · rw [if_neg e2, Array.getElem?_setIfInBounds_ne (fun h => e2 h.symm)]
        exact hcs j hj
  · have far : ∀ q, q < n → Ob w0 ((w.setCell ⟨g, i, none⟩ (vs k)).setCell ⟨g, k, none⟩ (vs i)) (vs q) (ls q) := fun q hq =>
      Rk.far (Rk.far (h.own q hq) (h.ne_own q hq) i _) (h.ne_own q hq) k _
    unfold swv
    split
    · exact far i hi
    · split
      · exact far k hk
      · exact far j hj
  · unfold swv
    by_cases a1 : a = k
    · rw [if_pos a1]
      by_cases b1 : b = k
      · omega
      · rw [if_neg b1]
        by_cases b2 : b = i
        · rw [if_pos b2]
          exact h.apart i k hi hk (by omega)
        · rw [if_neg b2]
          exact h.apart i b hi hb (by omega)
    · rw [if_neg a1]
      by_cases a2 : a = i
      · rw [if_pos a2]
        by_cases b1 : b = k
        · rw [if_pos b1]
          exact h.apart k i hk hi (by omega)
        · rw [if_neg b1, if_neg (by omega)]
          exact h.apart k b hk hb (by omega)
      · rw [if_neg a2]
        by_cases b1 : b = k
        · rw [if_pos b1]
          exact h.apart a i ha hi a2
        · rw [if_neg b1]
          by_cases b2 : b = i
          · rw [if_pos b2]
            exact h.apart a k ha hk a1
          · rw [if_neg b2]
            exact h.apart a b ha hb hab
end
theorem ob_fresh {w W : World} {v : Value} {l : List F} (h : Ob w W v l) (u : Value) (hu : u = .slice none 0 0) : v.ownBlock = u.ownBlock ∨ ∃ b, v.ownBlock = some b ∧ w.heap.size ≤ b := by
  subst hu
  rcases own_base' (own_b h) with h | h
  · exact .inl (by rw [h]; rfl)
  · exact .inr h
theorem one_set (n k : Nat) (hk : k < n) : (List.replicate n (0 : F)).set k 1 = rw_ n (F.one_ k) := by
  rw [show List.replicate n (0 : F) = rw_ n (fun _ => 0) by simp [List.map_const']]
  exact rw_set k 1 (fun j hj hne => (if_neg (fun e => hne e.symm)).symm) (if_pos rfl)
set_option maxRecDepth 100000 in
set_option maxHeartbeats 1600000 in
theorem mUnit_c (n : Nat) (hn : n ≤ 256) (w : World) :
   Calls Try.prog 123 #[.int .i64 (n : Int)] w fun e w' => ∃ g vs, e = .returned (.slice (some ⟨g, 0, none⟩) n n) ∧ Rws w w' g n vs (fun i => rw_ n (F.one_ i)) ∧ Below w.heap.size w w' := by
  have hn9 : (n : Int) * 24 ≤ 281474976710656 := by omega
  go_enter Try.func123, Try.ntmps123
  go_wp2_with fail
  refine (count_c n hn _).mono ?_
  rintro e w1 ⟨rfl, rfl⟩
  go_wp2_with ((with_reducible refine gate_dst (N := 8) rfl ?_); refine mk_raw rfl (N := 8) rfl 66 40 _ _ rfl n rfl rfl Try.underlying66 (.slice none 0 0) 24 infoR rfl (by decide) (by omega) ?_)
  have hR := Rws.made w w n (Nat.le_refl _)
  have hB := below_alloc (Below.refl w.heap.size w) (.cells (madeCells #[.slice none 0 0] n) 40)
  generalize w.alloc (.cells (madeCells #[.slice none 0 0] n) 40) = w1 at *
  generalize hg : w.heap.size = g at *
  replace hg := Lib.hid hg
  go_loopw [11] (fun i wr => ∃ (k : Nat) (vs : Nat → Value), k ≤ n ∧ i = .int .i64 k ∧ Rws w wr g n vs (fun j => if j < k then rw_ n (F.one_ j) else []) ∧ Hid (∀ j, k ≤ j → vs j = .slice none 0 0) ∧ Below g w wr) (fun i _ => n - (intOf i).toNat)
  case atStart => exact ⟨0, _, by omega, rfl, hR.congr (fun j _ => (if_neg (Nat.not_lt_zero _)).symm), Lib.hid (fun _ _ => rfl), hB⟩
  case round =>
    clear hR hB
    obtain ⟨k, vs, hk, rfl, hR, hnil, hB⟩ := hrel
    by_cases hlt : k < n
    · have hvk := hnil.out k (Nat.le_refl _)
      have q1 := hR.cell k hlt
      have q2 := hR.frozen k
      rw [hvk] at q1
      have hpos : 0 < n := by omega
      have hcg : Hid (∀ q, q < n → (if q = k then rw_ n (F.one_ k) else (fun j => if j = k then List.replicate n (0 : F) else if j < k then rw_ n (F.one_ j) else []) q) = if q < k + 1 then rw_ n (F.one_ q) else []) := Lib.hid (fun q hq => by
        by_cases e1 : q = k
        · subst e1
          rw [if_pos rfl, if_pos (Nat.lt_succ_self q)]
        · rw [if_neg e1]
          show (if q = k then _ else _) = _
          rw [if_neg e1]
          by_cases e2 : q < k
          · rw [if_pos e2, if_pos (by omega)]
          · rw [if_neg e2, if_neg (by omega)])
      have hset := Lib.hid (one_set n k hlt)
      go_wp2_with (
        (with_reducible refine gate_dst (N := 17) rfl ?_)
        refine mk_len kb rfl (N := 17) rfl 40 5 _ _ rfl _ rfl rfl Try.underlying40 (.int .u8 0) 1 infoB rfl Nat.one_pos (by decide) (0 : F) rfl ?h0 ?hl (Below.refl wr.heap.size wr) ?_
        (case h0 => omega)
        (case hl => omega)
        intro v1 w1 ho hb hg1
        rw [Int.toNat_natCast] at ho
        replace ho : Ob wr w1 v1 (List.replicate n 0) := ho
        have hfr := ob_fresh ho (vs k) hvk
        obtain ⟨g1, cap1, rfl, hg2, hg3⟩ := ho.form (by rw [List.length_replicate]; omega)
        rw [List.length_replicate] at ho hfr ⊢
        have q3 := (hR.below hb).cell k hlt
        rw [hvk] at q3
        have q4 := (hR.below hb).frozen k
        have hRp := hR.put k hlt (ho.lower (w0 := w) (by rw [hg.out]; exact hB)) (by rw [hvk]; exact hg1) hfr
        have q5 := hRp.cell k hlt
        have hO5 := hRp.own k hlt
        simp only [if_pos] at q5 hO5
        obtain ⟨q6, q7⟩ := Ob.at hO5 k (by rw [List.length_replicate]; exact hlt)
        obtain ⟨hO6, hg6⟩ := Ob.set hO5 k 1
        rw [hset.out] at hO6)
      have hRn := hRp.touch k hlt (by show Ob w _ (if k = k then _ else _) _; rw [if_pos rfl]; exact hO6) (by show World.grownBy _ _ (Value.ownBlock (if k = k then _ else _)); rw [if_pos rfl]; exact hg6)
      have hB9 := ((hB.trans (hb.mono (by rw [← hg.out]; exact hB.size))).setCell (p := ⟨g, k, none⟩) (Nat.le_refl g) (.slice (some ⟨g1, 0, none⟩) n cap1)).setCell (p := ⟨g1, k, none⟩) (show g ≤ g1 from Nat.le_trans (by rw [← hg.out]; exact hB.size) hg2) (.int .u8 (((1 : F).n : Nat) : Int))
      exact ⟨⟨k + 1, _, by omega, by go_num, hRn.congr hcg.out, Lib.hid (fun j hj => by show (if j = k then _ else vs j) = _; rw [if_neg (by omega)]; exact hnil.out j (by omega)), hB9⟩, by simp [intOf]; try omega⟩
    · obtain rfl : k = n := by omega
      go_wp2
      go_ret
      exact ⟨g, vs, rfl, hR.congr (fun j hj => if_pos hj), by rw [hg.out]; exact hB⟩
end Go.Proofs.Ytijeabhfddaoaaa
