/- Several texts of this seat, one behind the other. -/
import Derived.Test.YtijeabhfddaoaaaM11
/- Plain laws of dealing: shares that are a polynomial's values lead back to the blob. -/
namespace Go.Proofs.Sh
namespace F
/-- Shares that are values of polynomials of K places at most: the rows are their values at the secret points, and all shares agree. -/
theorem back_rows (sec pts : List F) (K n : Nat) (hK : K ≤ pts.length) (hK2 : K < 255) (hn : (pts.take K).Nodup) (E : Nat → List F) (hE : ∀ j, j < n → (E j).length ≤ K) (sh : List (List F)) (hl : sh.length = pts.length)
    (hsh : ∀ k, k < pts.length → ∀ j, j < n → (sh.getD k []).getD j 0 = ev (pts.getD k 0) (E j)) :
    rowsOf (pts.take K) sec (sh.take K) n = ((List.range n).map fun j => sec.map fun x => ev x (E j)) ∧ agr (pts.take K) pts K sh n := by
  have hxl : (pts.take K).length = K := by rw [List.length_take]; omega
  have hc : ∀ j, j < n → colOf (sh.take K) j = (pts.take K).map fun c => ev c (E j) := fun j hj => col_ev pts K hK sh hl j (E j) (fun k hk => hsh k hk j hj)
  exact ⟨rows_ev hn (by omega) (sh.take K) n E (fun j hj => by rw [hxl]; exact hE j hj) hc,
    agr_ev K (by omega) hn sh n E (fun j hj => by rw [hxl]; exact hE j hj) hc hsh⟩
theorem back_blob (sec : List F) (L : Nat) (hL : 0 < L) (hs : sec.length = L) (b : List F) (E : Nat → List F) (hsec : ∀ j, j < nS L b.length → ∀ k, k < L → ev (sec.getD k 0) (E j) = (rowOf L b j).getD k 0) :
    joinOf L ((List.range (nS L b.length)).map fun j => sec.map fun x => ev x (E j)) b.length = b := by
  have h : ((List.range (nS L b.length)).map fun j => sec.map fun x => ev x (E j)) = cutOf L b (nS L b.length) := by
    unfold cutOf
    refine List.map_congr_left fun j hj => ?_
    have hj := List.mem_range.1 hj
    apply ext_at
    · rw [List.length_map, hs, rowOf_len]
    · intro k hk
      rw [List.length_map, hs] at hk
      show (sec.map fun x => ev x (E j)).getD k 0 = (rowOf L b j).getD k 0
      rw [map_getD sec _ 0 0 k (by omega), hsec j hj k hk]
  rw [h]
  exact join_cut L hL b _ (nS_le L b.length hL)
/-- A share of a blob. -/
def dshare (E : List (List F)) (x : F) : List F := E.map (ev x)
theorem dshare_len (E : List (List F)) (x : F) : (dshare E x).length = E.length := by simp [dshare]
theorem dshare_at (E : List (List F)) (x : F) (j : Nat) (hj : j < E.length) : (dshare E x).getD j 0 = ev x (E.getD j []) := by simp [dshare, List.getD_eq_getElem?_getD, hj]
theorem dshare_take (E : List (List F)) (x : F) (j : Nat) (hj : j < E.length) : dshare (E.take (j + 1)) x = dshare (E.take j) x ++ [ev x (E.getD j [])] := by
  unfold dshare
  rw [List.take_succ_eq_append_getElem hj, List.map_append]
  simp [List.getD_eq_getElem?_getD, hj]
/-- What a value counts elsewhere is not 0. -/
theorem wtTo_ne {xs : List F} (hn : xs.Nodup) (i : Nat) (hi : i < xs.length) {x : F} (hx : x ∉ xs) : ∀ k, k ≤ xs.length → wtTo xs i x k ≠ 0
  | 0, _ => one_ne
  | k + 1, h => by
    show (if k = i then wtTo xs i x k else wtTo xs i x k * ((x + xs.getD k 0) * inv (xs.getD i 0 + xs.getD k 0))) ≠ 0
    by_cases e : k = i
    · rw [if_pos e]
      exact wtTo_ne hn i hi hx k (by omega)
    · rw [if_neg e]
      have hk : k < xs.length := by omega
      refine mul_ne (wtTo_ne hn i hi hx k (by omega)) (mul_ne (fun e2 => hx ?_) (inv_ne (fun e2 => e (getD_inj hn hi hk (eq_of_add e2)).symm)))
      rw [eq_of_add e2, List.getD_eq_getElem?_getD, List.getElem?_eq_getElem hk]
      exact List.getElem_mem hk
/-- One value more in a sum of products. -/
theorem dot_bump (l m m' : List F) (i : Nat) (t : F) (hi : i < l.length) (hm : ∀ k, k < l.length → m'.getD k 0 = m.getD k 0 + if k = i then t else 0) : dot l m' = dot l m + l.getD i 0 * t := by
  rw [dot_sm, dot_sm, sm_congr (g := fun k => l.getD k 0 * m.getD k 0 + l.getD k 0 * (if k = i then t else 0)) (fun k hk => by rw [hm k hk, mul_add])]
  rw [sm_add, sm_one (f := fun k => l.getD k 0 * (if k = i then t else 0)) i hi (fun k _ hk => by rw [if_neg hk, mul_zero]), if_pos rfl]
theorem take_nodup_not {pts : List F} (hn : pts.Nodup) (K : Nat) (hK : K < pts.length) : pts.getD K 0 ∉ pts.take K := fun h => by
  obtain ⟨j, hj, e⟩ := List.getElem_of_mem h
  rw [List.length_take] at hj
  have e2 : pts.getD j 0 = pts.getD K 0 := by
    rw [← e, List.getElem_take, List.getD_eq_getElem?_getD, List.getElem?_eq_getElem (by omega)]
    rfl
  have := getD_inj hn (show j < pts.length by omega) hK e2
  omega
/-- If one share's byte is turned, the shares, more than are needed, agree no more. -/
theorem turned_tells (pts : List F) (K n : Nat) (hK : K < pts.length) (hK2 : K < 255) (hn : pts.Nodup) (E : Nat → List F) (hE : ∀ j, j < n → (E j).length ≤ K) (sh : List (List F)) (hl : sh.length = pts.length)
    (i j0 : Nat) (hi : i < pts.length) (hj0 : j0 < n) (t : F) (ht : t ≠ 0)
    (hsh : ∀ k, k < pts.length → (sh.getD k []).getD j0 0 = ev (pts.getD k 0) (E j0) + if k = i then t else 0) : ¬ agr (pts.take K) pts K sh n := fun ha => by
  have hxl : (pts.take K).length = K := by rw [List.length_take]; omega
  have hnt : (pts.take K).Nodup := hn.sublist (List.take_sublist _ _)
  have hp : ∀ k, k < K → (pts.take K).getD k 0 = pts.getD k 0 := fun k hk => take_getD pts 0 K k hk
  have hd : ∀ x, dot (wts (pts.take K) x) ((pts.take K).map fun c => ev c (E j0)) = ev x (E j0) := fun x => dot_wts_ev hnt (by omega) (by rw [hxl]; exact hE j0 hj0) x
  have hcol : ∀ k, k < K → (colOf (sh.take K) j0).getD k 0 = ((pts.take K).map fun c => ev c (E j0)).getD k 0 + if k = i then t else 0 := fun k hk => by
    rw [colOf_at _ _ _ (by rw [List.length_take]; omega), take_getD sh [] K k hk, hsh k (by omega), map_getD (pts.take K) (fun c => ev c (E j0)) 0 0 k (by omega), hp k hk]
  have hwl : ∀ x, (wts (pts.take K) x).length = K := fun x => by rw [wts_len, hxl]
  by_cases hiK : i < K
  · have h1 := ha K (Nat.le_refl _) hK j0 hj0
    rw [dot_bump (wts (pts.take K) (pts.getD K 0)) ((pts.take K).map fun c => ev c (E j0)) _ i t (by rw [hwl]; exact hiK) (fun k hk => hcol k (by rw [hwl] at hk; exact hk)), hd, hsh K hK, if_neg (by omega)] at h1
    have h2 := add_cancel h1
    rw [wts_at _ _ _ (by omega)] at h2
    exact mul_ne (wtTo_ne hnt i (by omega) (take_nodup_not hn K hK) _ (Nat.le_refl _)) ht h2
  · have h1 := ha i (by omega) hi j0 hj0
    have e : colOf (sh.take K) j0 = (pts.take K).map fun c => ev c (E j0) := ext_at (by rw [colOf_len, List.length_take, List.length_map, List.length_take]; omega) (fun k hk => by
      rw [colOf_len, List.length_take] at hk
      show (colOf (sh.take K) j0).getD k 0 = ((pts.take K).map fun c => ev c (E j0)).getD k 0
      rw [hcol k (by omega), if_neg (by omega), add_zero])
    rw [e, hd, hsh i hi, if_pos rfl] at h1
    have h2 : ev (pts.getD i 0) (E j0) + 0 = ev (pts.getD i 0) (E j0) + t := by rw [add_zero]; exact h1
    exact ht (add_cancel h2).symm
end F
end Go.Proofs.Sh

/- Plain laws of dealing: shares add up. -/
namespace Go.Proofs.Sh
namespace F
/-- Bytes, and others, one by one, as long as the first ones. -/
def xorL (a b : List F) : List F := (List.range a.length).map fun i => a.getD i 0 + b.getD i 0
theorem xorL_len (a b : List F) : (xorL a b).length = a.length := by simp [xorL]
theorem xorL_at (a b : List F) (i : Nat) (h : i < a.length) : (xorL a b).getD i 0 = a.getD i 0 + b.getD i 0 := by simp [xorL, List.getD_eq_getElem?_getD, h]
theorem getD_out (a : List F) (i : Nat) (h : a.length ≤ i) : a.getD i 0 = 0 := by rw [List.getD_eq_getElem?_getD, List.getElem?_eq_none h]; rfl
theorem rowOf_xor (L : Nat) (a b : List F) (hl : a.length = b.length) (j : Nat) : rowOf L (xorL a b) j = padd (rowOf L a j) (rowOf L b j) := by
  apply ext_at
  · rw [rowOf_len, padd_len, rowOf_len, rowOf_len, Nat.max_self]
  · intro k hk
    rw [rowOf_len] at hk
    rw [padd_at]
    show (rowOf L (xorL a b) j).getD k 0 = (rowOf L a j).getD k 0 + (rowOf L b j).getD k 0
    rw [rowOf_at _ _ _ _ hk, rowOf_at _ _ _ _ hk, rowOf_at _ _ _ _ hk]
    by_cases h : j * L + k < a.length
    · rw [xorL_at _ _ _ h]
    · rw [getD_out _ _ (by rw [xorL_len]; omega), getD_out a _ (by omega), getD_out b _ (by omega), add_zero]
theorem tp_xor (T n : Nat) (s t : List F) (j : Nat) (hj : (j + 1) * T ≤ n) (h1 : n ≤ s.length) (h2 : n ≤ t.length) : tp T (xorL (s.take n) (t.take n)) j = padd (tp T s j) (tp T t j) := by
  have hle : j * T + T ≤ n := by rw [Nat.add_mul, Nat.one_mul] at hj; exact hj
  have hln : (xorL (s.take n) (t.take n)).length = n := by rw [xorL_len, List.length_take]; omega
  apply ext_at
  · rw [padd_len, tp_len _ _ _ (by omega), tp_len _ _ _ (by omega), tp_len _ _ _ (by omega), Nat.max_self]
  · intro k hk
    rw [tp_len _ _ _ (by omega)] at hk
    rw [padd_at]
    show (tp T (xorL (s.take n) (t.take n)) j).getD k 0 = (tp T s j).getD k 0 + (tp T t j).getD k 0
    rw [tp_at _ _ _ _ hk, tp_at _ _ _ _ hk, tp_at _ _ _ _ hk, xorL_at _ _ _ (by rw [List.length_take]; omega), take_getD s 0 n _ (by omega), take_getD t 0 n _ (by omega)]
theorem dot_padd (l m m' : List F) : dot l (padd m m') = dot l m + dot l m' := by
  rw [dot_sm, dot_sm, dot_sm, ← sm_add]
  refine sm_congr fun i _ => ?_
  show _ * at_ (padd m m') i = _ * at_ m i + _ * at_ m' i
  rw [padd_at, mul_add]
/-- Stripes' polynomials add up. -/
theorem dpoly_add (sec r r' t t' : List F) (x : F) (h : sec.length < 255) : ev x (dpoly sec (padd r r') (padd t t')) = ev x (dpoly sec r t) + ev x (dpoly sec r' t') := by
  rw [ev_dpoly _ _ _ _ h, ev_dpoly _ _ _ _ h, ev_dpoly _ _ _ _ h, dot_padd, ev_padd, mul_add]
  ac_rfl
end F
end Go.Proofs.Sh
