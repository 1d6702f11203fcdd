/- Plain: what the walks of package matrix tell is what the statements ask. -/
import Derived.Test.YtijeabhfddaoaaaMm
import Derived.Test.YtijeabhfddaoaaaR04b
namespace Go.Proofs.Ytijeabhfddaoaaa
open Go.Proofs.Sh

theorem map_at {α β : Type} (l : List α) (f : α → β) (z : α) (u : β) (k : Nat) (h : k < l.length) : (l.map f).getD k u = f (l.getD k z) := by simp [List.getD_eq_getElem?_getD, h]
theorem wid_rows {b : List (List F)} {W : Nat} (h : wid b = (W : Int)) : ∀ j, j < b.length → (b.getD j []).length = W := by
  intro j hj
  unfold wid at h
  split at h
  · rename_i e
    subst e
    simp at hj
  · split at h
    · rename_i h1
      rw [h1 _ (getD_mem hj)]
      exact Int.ofNat_inj.1 h
    · omega
theorem wid_first {b : List (List F)} {W : Nat} (h : wid b = (W : Int)) : (b.getD 0 []).length = W := by
  by_cases e : b.length = 0
  · obtain rfl := List.eq_nil_of_length_eq_zero e
    have h0 : (0 : Int) = (W : Int) := h
    show 0 = W
    omega
  · exact wid_rows h 0 (by omega)
theorem wid_all {b : List (List F)} {W : Nat} (h0 : b.length ≠ 0) (h : ∀ j, j < b.length → (b.getD j []).length = W) : wid b = (W : Int) := by
  have h1 := h 0 (by omega)
  rw [wid_yes h0 (fun j hj => by rw [h j hj, h1]), h1]
theorem dot_col {r : List F} {b : List (List F)} (h : r.length = b.length) (k : Nat) : dot r (b.map fun q => q.getD k 0) = rc r b k := by
  rw [F.dot_sm, h]
  unfold rc
  exact F.sm_congr fun j hj => by rw [map_at b _ [] 0 j hj]
theorem mulC_mulR {a b : List (List F)} {W : Nat} (hW : wid b = (W : Int)) (ha : ∀ k, k < a.length → (a.getD k []).length = b.length) : mulC a b = mulR a b := by
  unfold mulC mulR
  refine List.map_congr_left fun r hr => ?_
  obtain ⟨k, hk, rfl⟩ := mem_getD hr
  unfold colsOf
  rw [wid_first hW, hW, List.map_map]
  exact List.map_congr_left fun j hj => dot_col (ha k hk) j
theorem wid_mat (n : Nat) (a : F.Mx) : wid (F.mat n a) = (n : Int) := by
  by_cases e : n = 0
  · subst e
    rfl
  · have hl : (F.mat n a).length = n := (F.mat_sq n a).1
    exact wid_all (by omega) fun j hj => (F.mat_sq n a).2 _ (getD_mem hj)
theorem rc_mat (r : List F) (n : Nat) (a : F.Mx) (k : Nat) (hk : k < n) : rc r (F.mat n a) k = F.sm n (fun j => r.getD j 0 * a j k) := by
  unfold rc
  rw [(F.mat_sq n a).1]
  exact F.sm_congr fun j hj => by rw [show ((F.mat n a).getD j []).getD k 0 = a j k from F.mat_ent n a j k hj hk]
theorem sm_pick {n : Nat} (x : Nat → F) (k : Nat) (hk : k < n) : F.sm n (fun j => x j * F.one_ j k) = x k := by
  rw [F.sm_one k hk (fun i hi hne => by rw [show F.one_ i k = 0 from if_neg hne, F.mul_zero]), show F.one_ k k = 1 from if_pos rfl, F.mul_one]
theorem mul_unit {a : List (List F)} {n : Nat} (h : ∀ j, j < a.length → (a.getD j []).length = n) : mulR a (F.mat n F.one_) = a := by
  unfold mulR
  rw [wid_mat]
  apply List.ext_getElem (by simp)
  intro i h1 h2
  rw [List.getElem_map]
  have hi : (a[i]).length = n := by
    have := h i h2
    rwa [List.getD_eq_getElem?_getD, List.getElem?_eq_getElem h2, Option.getD_some] at this
  apply List.ext_getElem (by simp [hi])
  intro k h3 h4
  rw [List.getElem_map, List.getElem_range, rc_mat _ _ _ _ (by omega), sm_pick _ k (by omega)]
  simp [List.getD_eq_getElem?_getD, h4]
theorem mulR_mat (n : Nat) (x y : F.Mx) : mulR (F.mat n x) (F.mat n y) = F.mat n (fun i k => F.sm n (fun j => x i j * y j k)) := by
  unfold mulR
  rw [wid_mat]
  unfold F.mat
  rw [List.map_map]
  refine List.map_congr_left fun i hi => ?_
  refine List.map_congr_left fun k hk => ?_
  refine (rc_mat ((List.range n).map (x i)) n y k (List.mem_range.1 hk)).trans ?_
  exact F.sm_congr fun j hj => by rw [show ((List.range n).map (x i)).getD j 0 = x i j from rw_at (x i) hj]
theorem inv_right {n : Nat} {a : List (List F)} (hs : F.Sq n a) {q : F.Mx × F.Mx} (h : F.gs n (F.ent a, F.one_) n = some q) : mulR a (F.mat n q.2) = F.mat n F.one_ := by
  conv => lhs; rw [← hs.mat]
  rw [mulR_mat]
  exact F.mat_congr fun i j hi hj => F.gs_right h i j hi hj
theorem inv_left {n : Nat} {a : List (List F)} (hs : F.Sq n a) {q : F.Mx × F.Mx} (h : F.gs n (F.ent a, F.one_) n = some q) : mulR (F.mat n q.2) a = F.mat n F.one_ := by
  conv => lhs; rw [← hs.mat]
  rw [mulR_mat]
  exact F.mat_congr fun i j hi hj => F.gs_left h i j hi hj
theorem gs_detN {n : Nat} {a : List (List F)} (hs : F.Sq n a) : F.gs n (F.ent a, F.one_) n = none ↔ F.detN n a = 0 := by
  rw [F.det_D hs]
  have := F.gs_det n (F.ent a)
  constructor
  · intro h
    refine Classical.byContradiction fun hd => this.2 hd h
  · intro h
    refine Classical.byContradiction fun hg => this.1 hg h
/-- The powers of bytes. -/
def powM (xs : List F) (n : Nat) : List (List F) := xs.map fun x => rw_ n (F.pw x)
theorem powM_sq (xs : List F) : F.Sq xs.length (powM xs xs.length) := ⟨by simp [powM], fun r hr => by
  obtain ⟨x, _, rfl⟩ := List.mem_map.1 hr
  exact rw_len _ _⟩
theorem ent_pow {xs : List F} {n i j : Nat} (hi : i < xs.length) (hj : j < n) : F.ent (powM xs n) i j = F.pw (xs.getD i 0) j := by
  unfold F.ent powM
  rw [map_at xs _ 0 [] i hi, rw_at _ hj]
theorem ap_pow {xs : List F} (c : Nat → F) (i : Nat) (hi : i < xs.length) : F.ap xs.length (F.ent (powM xs xs.length)) c i = F.ev (xs.getD i 0) (rw_ xs.length c) := by
  rw [F.ev_sum, rw_len]
  refine F.sm_congr fun j hj => ?_
  rw [show F.at_ (rw_ xs.length c) j = c j from rw_at c hj, ent_pow hi hj, F.mul_comm]
theorem pow_gs {xs : List F} : F.gs xs.length (F.ent (powM xs xs.length), F.one_) xs.length ≠ none ↔ xs.Nodup := by
  constructor
  · intro hg
    obtain ⟨q, hq⟩ := Option.ne_none_iff_exists'.1 hg
    refine List.pairwise_iff_getElem.2 fun i j hi hj hij e => ?_
    have h := (F.gs_solves hq (fun r => F.ap xs.length q.2 (F.uc i) r) (F.uc i)).2 (fun r hr => rfl)
    have h1 := h i hi
    have h2 := h j hj
    rw [ap_pow _ i hi] at h1
    rw [ap_pow _ j hj] at h2
    have e2 : xs.getD i 0 = xs.getD j 0 := by simp [List.getD_eq_getElem?_getD, hi, hj, e]
    rw [e2, h2] at h1
    have h3 : (0 : F) = 1 := by
      have a1 : F.uc i j = 0 := if_neg (by omega)
      have a2 : F.uc i i = 1 := if_pos rfl
      rw [a1, a2] at h1
      exact h1
    exact absurd h3 (by decide)
  · intro hn
    rw [F.gs_iff]
    intro c hc k hk
    have := F.uniq hn (p := rw_ xs.length c) (q := []) (by simp) (by simp) (fun x hx => by
      obtain ⟨j, hj, rfl⟩ := List.getElem_of_mem hx
      have e : xs.getD j 0 = xs[j] := by simp [List.getD_eq_getElem?_getD, hj]
      rw [← e, ← ap_pow c j hj, hc j hj, F.ev_nil]) k
    rw [show F.at_ (rw_ xs.length c) k = c k from rw_at c hk] at this
    rw [this]
    rfl
theorem pow_thr {xs ys : List F} {q : F.Mx × F.Mx} (hn : xs.Nodup) (h : xs.length < 255) (hq : F.gs xs.length (F.ent (powM xs xs.length), F.one_) xs.length = some q) :
    (F.mat xs.length q.2).map (fun r => dot r ys) = F.thr xs ys xs.length := by
  have e : (F.mat xs.length q.2).map (fun r => dot r ys) = rw_ xs.length (fun i => F.ap xs.length q.2 (fun j => ys.getD j 0) i) := by
    unfold F.mat
    rw [List.map_map]
    refine List.map_congr_left fun i hi => ?_
    show dot ((List.range xs.length).map (q.2 i)) ys = _
    rw [F.dot_sm, List.length_map, List.length_range]
    exact F.sm_congr fun j hj => by rw [show ((List.range xs.length).map (q.2 i)).getD j 0 = q.2 i j from rw_at (q.2 i) hj]
  rw [e]
  have hs := (F.gs_solves hq (fun r => F.ap xs.length q.2 (fun j => ys.getD j 0) r) (fun j => ys.getD j 0)).2 (fun r hr => rfl)
  refine F.ext_at (by rw [rw_len, F.thr_len]) fun k hk => ?_
  rw [F.thr_uniq hn h (p := rw_ xs.length (fun i => F.ap xs.length q.2 (fun j => ys.getD j 0) i)) (by rw [rw_len]; exact Nat.le_refl _) (fun j hj => by rw [← ap_pow _ j hj, hs j hj]) k]
end Go.Proofs.Ytijeabhfddaoaaa
