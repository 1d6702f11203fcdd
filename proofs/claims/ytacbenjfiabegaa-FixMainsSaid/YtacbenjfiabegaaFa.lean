/- A region that draws its order, told by one saying of what was carried out, of its values, and of the world. -/
import Derived.Test.YtacbenjfiabegaaFs
namespace Go.Proofs.Ytacbenjfiabegaa
open Go Go.RowKit

/-- Some values, put where they belong. -/
def putV (vs : Nat → Value) : List (Nat × Option Tmp) → Act → Act
  | [], a => a
  | (j, d) :: r, a => putV vs r (a.put d (vs j))
theorem putV_fill (ops : Array Oper) (vs : Nat → Value) : ∀ (l : List Nat) (a : Act), fillL ops vs a l = putV vs (l.map fun j => (j, dstOf ops j)) a
  | [], _ => rfl
  | j :: l, a => by
    rw [fill_cons]
    exact putV_fill ops vs l _
def upd (vs : Nat → Value) (i : Nat) (v : Value) : Nat → Value := fun j => if j = i then v else vs j
section
variable {P : Program} {ops : Array Oper}
/-- All operations, one behind the other. -/
def anyAll (P : Program) (a0 : Act) (I : (Nat → Value) → List Nat → World → Prop) : Nat → List Oper → Tab → Prop
  | i, o :: r, t :: T => (∀ vs l W, i ∉ l → (∀ p ∈ t.1, p.1 ∈ l) → I vs l W → runOp P o t.2 W (fun v W' => I (upd vs i v) (l ++ [i]) W') (putV vs t.1 a0)) ∧ anyAll P a0 I (i + 1) r T
  | _, [], _ => True
  | _, _, _ => False
theorem anyAll_at {a0 : Act} {I : (Nat → Value) → List Nat → World → Prop} : ∀ (l : List Oper) (T : Tab) (k : Nat), anyAll P a0 I k l T → ∀ (i : Nat) (o : Oper), l[i]? = some o →
    ∃ t : Tel, T[i]? = some t ∧ ∀ vs l W, k + i ∉ l → (∀ p ∈ t.1, p.1 ∈ l) → I vs l W → runOp P o t.2 W (fun v W' => I (upd vs (k + i) v) (l ++ [k + i]) W') (putV vs t.1 a0)
  | x :: r, t :: T, k, h, 0, o, ho => by
    simp at ho
    subst ho
    exact ⟨t, rfl, h.1⟩
  | x :: r, t :: T, k, h, i + 1, o, ho => by
    obtain ⟨t', h2, h3⟩ := anyAll_at r T (k + 1) h.2 i o (by simpa using ho)
    rw [show k + 1 + i = k + (i + 1) by omega] at h3
    exact ⟨t', by simpa using h2, h3⟩
  | [], _, _, _, i, o, ho => by simp at ho
  | x :: r, [], _, h, _, _, _ => by simp [anyAll] at h
/-- **A region that draws its order, told by one saying.** -/
theorem wp_region_inv {id : Nat} {a0 : Act} {w0 : World} {Q : Exit → Act → World → Prop} (I : (Nat → Value) → List Nat → World → Prop) (T : Tab) (all : List (Nat × Option Tmp)) (hm : P.follows .mixedOrders = true) (h : famOk ops = true)
    (hT : tabOf ops = T) (hall : (List.range ops.size).map (fun j => (j, dstOf ops j)) = all) (h0 : I (fun _ => undef) [] w0.drew) (hs : anyAll P a0 I 0 ops.toList T)
    (hQ : ∀ vs l W, (∀ j, j < ops.size → j ∈ l) → I vs l W → Q .normal (putV vs all a0) W) : (Code.region id ops true).wp P Q a0 w0 := by
  subst hall
  subst hT
  refine wp_region_any hm ?_
  refine famA_any h I (fun i o vs l W ho hil hal hsh hI => ?_) (fun vs l W hall hI => ?_) ops.size (Array.replicate ops.size false) (fun _ => undef) [] _ (by simp) List.nodup_nil (fun j hj => by simp [hj]) (fun j hj => by cases hj) (by simp) (fun j hj => by cases hj) h0
  · obtain ⟨t, h4, h5⟩ := anyAll_at ops.toList (tabOf ops) 0 hs i o (by rw [Array.getElem?_toList]; exact ho)
    rw [Nat.zero_add] at h5
    have ht : t = ((depsOf ops o).map (fun j => (j, dstOf ops j)), gdOf ops o) := by
      unfold tabOf at h4
      rw [List.getElem?_map, Array.getElem?_toList, ho] at h4
      simpa using h4.symm
    subst ht
    have h6 := h5 vs l W hil (fun p hp => by
      obtain ⟨j, hj, rfl⟩ := List.mem_map.1 hp
      obtain ⟨e, he, hb, rfl⟩ := (famOk_at h ho).2.1 j hj
      exact hal e he hb) hI
    simp only [← putV_fill] at h6
    exact stepAt_of h6
  · rw [putV_fill]
    exact hQ vs l W hall hI
end
end Go.Proofs.Ytacbenjfiabegaa
