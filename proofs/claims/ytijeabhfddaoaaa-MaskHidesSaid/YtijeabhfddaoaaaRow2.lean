/- Opening the laws' arguments, with their sizes. -/
import Derived.Test.YtijeabhfddaoaaaRow
import Derived.SizedLaws
namespace Go.Proofs.Ytijeabhfddaoaaa
open Go.ChangeShapes Go.WideShapes Go.ChangeAt Go.RowKit Go.Proofs.YtijeabhfddaoaaaW.PrintWords Go.Proofs.Sh

/-- All that is read is small enough to be. -/
def Small {H : Type} (P : Program) (t : TypeId) (d : DataW H) : Prop := ∀ z ∈ d.weights P t, z ≤ reachBytes
section
variable {H : Type} {enc : TypeId × Value → H} {P : Program} {w : World} {base : Nat} {spare : Nat → Bool} {held : Bool}
theorem small_all {ds : List (DataW H)} {ts : List TypeId} (h : (DataW.weightsEach P ts ds).all (· ≤ reachBytes) = true) : ∀ (j : Nat) (t : TypeId) (d : DataW H), ts[j]? = some t → ds[j]? = some d → Small P t d := by
  induction ts generalizing ds with
  | nil => intro j t d ht; simp at ht
  | cons t0 ts ih =>
    intro j t d ht hd
    cases ds with
    | nil => simp at hd
    | cons d0 ds =>
      rw [DataW.weightsEach, List.all_append, Bool.and_eq_true] at h
      cases j with
      | zero =>
        simp at ht hd
        subst ht
        subst hd
        intro z hz
        simpa using (List.all_eq_true.1 h.1) z hz
      | succ j => exact ih h.2 j t d (by simpa using ht) (by simpa using hd)
theorem small_each {ds : List (DataW H)} {ts : List TypeId} (h : ∀ z ∈ DataW.weightsEach P ts ds, z ≤ reachBytes) : ∀ (j : Nat) (t : TypeId) (d : DataW H), ts[j]? = some t → ds[j]? = some d → Small P t d :=
  small_all (List.all_eq_true.2 fun z hz => by simpa using h z hz)
theorem small_row {ds : List (DataW H)} {e : TypeId} (h : ∀ z ∈ DataW.weightsAll P e ds, z ≤ reachBytes) : ∀ (j : Nat) (d : DataW H), ds[j]? = some d → Small P e d := by
  induction ds with
  | nil => intro j d hd; simp at hd
  | cons d0 ds ih =>
    intro j d hd
    rw [DataW.weightsAll] at h
    cases j with
    | zero =>
      simp at hd
      subst hd
      exact fun z hz => h z (List.mem_append.2 (.inl hz))
    | succ j => exact ih (fun z hz => h z (List.mem_append.2 (.inr hz))) j d (by simpa using hd)
theorem cells_structS {fs : Array Field} {t : TypeId} (ht : P.underlying t = some (.struct fs)) {fuel : Nat} {cs : List Value} {x : DataW H × List MemPlace} (h : DataW.trod enc P w base spare held fuel t cs = some x) (hs : Small P t x.1)
    (i : Nat) (f : Field) (hf : fs[i]? = some f) (hc : P.cellsOf f.type = 1) (c : Value) (r : List Value) (ho : cs.drop f.offset = c :: r) : ∃ m y, DataW.trod enc P w base spare held m f.type [c] = some y ∧ Small P f.type y.1 := by
  obtain ⟨xs, n, e1, e2, e3, hl, hx⟩ := DataW.trod_struct ht h
  have hi : i < xs.length := by rw [hl]; exact (Array.getElem?_eq_some_iff.1 hf).1
  have := hx i f hf
  rw [hc, ho, List.getElem?_eq_getElem hi] at this
  refine ⟨n, _, this, ?_⟩
  rw [e2] at hs
  have hs : ∀ z ∈ DataW.weightsEach P (fs.toList.map (·.type)) (xs.map (·.1)), z ≤ reachBytes := by
    have h9 := hs
    unfold Small at h9
    simp only [DataW.weights, ht] at h9
    exact h9
  refine small_each hs i f.type xs[i].1 ?_ ?_
  · rw [List.getElem?_map, Array.getElem?_toList, hf]; rfl
  · rw [List.getElem?_map, List.getElem?_eq_getElem hi]; rfl
theorem cells_arrayS {n : Nat} {e t : TypeId} (ht : P.underlying t = some (.array n e)) {fuel : Nat} {cs : List Value} {x : DataW H × List MemPlace} (h : DataW.trod enc P w base spare held fuel t cs = some x) (hs : Small P t x.1)
    (i : Nat) (hi : i < n) (hc : P.cellsOf e = 1) (c : Value) (r : List Value) (ho : cs.drop i = c :: r) : ∃ m y, DataW.trod enc P w base spare held m e [c] = some y ∧ Small P e y.1 := by
  obtain ⟨xs, m, e1, e2, e3, hl, hx⟩ := DataW.trod_array ht h
  have := hx i hi
  rw [hc, Nat.mul_one, ho, List.getElem?_eq_getElem (by omega)] at this
  refine ⟨m, _, this, ?_⟩
  have hi2 : i < xs.length := by omega
  rw [e2] at hs
  have hs : ∀ z ∈ DataW.weightsAll P e (xs.map (·.1)), z ≤ reachBytes := by
    have h9 := hs
    unfold Small at h9
    simp only [DataW.weights, ht] at h9
    exact h9
  refine small_row hs i xs[i].1 ?_
  rw [List.getElem?_map, List.getElem?_eq_getElem hi2]; rfl
theorem slice_small {t e : TypeId} (ht : P.underlying t = some (.slice e)) (hc : P.cellsOf e = 1) {fuel : Nat} {A : Option Addr} {n c : Nat} {x : DataW H × List MemPlace} (h : DataW.trod enc P w base spare held fuel t [.slice A n c] = some x) (hs : Small P t x.1) : n * P.bytesOf e ≤ reachBytes := by
  rcases Go.Deep.open_slice1 ht hc h with ⟨e1, _⟩ | ⟨a, len, cap, m, n2, V, D, Pl, e1, _, hl, hm, hmm, e2, hx⟩
  · injection e1 with e1
    injection e1 with _ e1 _
    rw [e1, Nat.zero_mul]
    exact Nat.zero_le _
  · injection e1 with e1
    injection e1 with _ e1 _
    subst e1
    rw [e2] at hs
    have h9 := hs
    unfold Small at h9
    simp only [DataW.weights, ht] at h9
    have := h9 _ (List.mem_cons_self ..)
    rw [List.length_map, List.length_range] at this
    exact Nat.le_trans (Nat.mul_le_mul_right _ (Nat.le_add_right _ _)) this
theorem rk_small {α : Type} {d : Kd α} {t e : TypeId} (ht : P.underlying t = some (.slice e)) (hc : P.cellsOf e = 1) {fuel : Nat} {v : Value} {ys : List α} {x : DataW H × List MemPlace} (h : DataW.trod enc P w base spare held fuel t [v] = some x) (hs : Small P t x.1) (hr : Rk d w v ys) : ys.length * P.bytesOf e ≤ reachBytes := by
  obtain ⟨A, c, rfl, _, _⟩ := hr
  exact slice_small ht hc h hs
end
theorem bytes_b : Try.prog.bytesOf 5 = 1 := by kernel_rfl
theorem bytes_i : Try.prog.bytesOf 3 = 8 := by kernel_rfl
theorem bytes_r : Try.prog.bytesOf 40 = 24 := by kernel_rfl
theorem small_b {n : Nat} (h : n * Try.prog.bytesOf 5 ≤ reachBytes) : n ≤ 140737488351232 := by rw [bytes_b] at h; unfold reachBytes at h; omega
theorem small_i {n : Nat} (h : n * Try.prog.bytesOf 3 ≤ reachBytes) : n ≤ 17592186043904 := by rw [bytes_i] at h; unfold reachBytes at h; omega
theorem small_r {n : Nat} (h : n * Try.prog.bytesOf 40 ≤ reachBytes) : n ≤ 5864062014634 := by rw [bytes_r] at h; unfold reachBytes at h; omega
end Go.Proofs.Ytijeabhfddaoaaa
