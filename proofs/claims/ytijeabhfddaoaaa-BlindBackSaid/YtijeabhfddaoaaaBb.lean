/- Plain laws of BlindBack: what the target finds of blinded parts. -/
import Derived.Test.YtijeabhfddaoaaaDe
import Derived.Test.YtijeabhfddaoaaaL13
import Derived.Test.YtijeabhfddaoaaaBf
import Derived.Test.YtijeabhfddaoaaaBk
namespace Go.Proofs.Ytijeabhfddaoaaa
set_option linter.unusedVariables false
open Go.RowKit Go.Proofs.YtijeabhfddaoaaaW.PrintWords Go.Proofs.Sh

/-- The polynomials behind k rounds of blindings. -/
def bpE (p : Pl) (b tape z : List F) (own : F) (Wd Cs : Nat) : Nat → Nat → List F
  | 0, j => (polysOf p b tape).getD j []
  | k + 1, j => F.padd (bpE p b tape z own Wd Cs k j) (F.pmul [own, 1] (F.tp Wd (z.drop (k * Cs)) j))
/-- .. their values at x. -/
def bpS (p : Pl) (b tape z : List F) (own : F) (Wd Cs k : Nat) (x : F) : List F := (List.range (F.nS p.L.toNat b.length)).map fun j => F.ev x (bpE p b tape z own Wd Cs k j)
theorem bpS_len (p : Pl) (b tape z : List F) (own : F) (Wd Cs k : Nat) (x : F) : (bpS p b tape z own Wd Cs k x).length = F.nS p.L.toNat b.length := by simp [bpS]
theorem bpS_at (p : Pl) (b tape z : List F) (own : F) (Wd Cs k : Nat) (x : F) (j : Nat) (h : j < F.nS p.L.toNat b.length) : (bpS p b tape z own Wd Cs k x).getD j 0 = F.ev x (bpE p b tape z own Wd Cs k j) := by simp [bpS, List.getD_eq_getElem?_getD, h]
theorem bsh_len (W : Nat) (own : F) (t : List F) (s : Nat) (x : F) : (bsh W own t s x).length = s := by simp [bsh]
theorem bsh_at (W : Nat) (own : F) (t : List F) (s : Nat) (x : F) (j : Nat) (h : j < s) : (bsh W own t s x).getD j 0 = (x + own) * F.ev x (F.tp W t j) := by simp [bsh, List.getD_eq_getElem?_getD, h]
theorem ev_own1 (x own : F) : F.ev x [own, 1] = x + own := by rw [F.ev_lin, F.add_comm]
theorem bpS_0 (p : Pl) (b tape z : List F) (own : F) (Wd Cs : Nat) (x : F) : bpS p b tape z own Wd Cs 0 x = F.dshare (polysOf p b tape) x := by
  apply F.ext_at
  · rw [bpS_len, F.dshare_len, polys_len]
  · intro j hj
    rw [bpS_len] at hj
    show (bpS p b tape z own Wd Cs 0 x).getD j 0 = (F.dshare (polysOf p b tape) x).getD j 0
    rw [bpS_at _ _ _ _ _ _ _ _ _ _ hj, F.dshare_at _ _ _ (by rw [polys_len]; exact hj)]
    rfl
theorem bpS_step (p : Pl) (b tape z : List F) (own : F) (Wd Cs k : Nat) (x : F) : F.addAll [bpS p b tape z own Wd Cs k x, bsh Wd own (z.drop (k * Cs)) (F.nS p.L.toNat b.length) x] = bpS p b tape z own Wd Cs (k + 1) x := by
  show F.zadd (bpS p b tape z own Wd Cs k x) (bsh Wd own (z.drop (k * Cs)) (F.nS p.L.toNat b.length) x) = _
  apply F.ext_at
  · rw [F.zadd_len, bpS_len, bsh_len, bpS_len, Nat.min_self]
  · intro j hj
    rw [F.zadd_len, bpS_len, bsh_len, Nat.min_self] at hj
    show (F.zadd (bpS p b tape z own Wd Cs k x) (bsh Wd own (z.drop (k * Cs)) (F.nS p.L.toNat b.length) x)).getD j 0 = (bpS p b tape z own Wd Cs (k + 1) x).getD j 0
    rw [F.zadd_at _ _ _ (by rw [bpS_len]; exact hj) (by rw [bsh_len]; exact hj), bpS_at _ _ _ _ _ _ _ _ _ _ hj, bpS_at _ _ _ _ _ _ _ _ _ _ hj, bsh_at _ _ _ _ _ _ hj]
    show _ = F.ev x (F.padd (bpE p b tape z own Wd Cs k j) (F.pmul [own, 1] (F.tp Wd (z.drop (k * Cs)) j)))
    rw [F.ev_padd, F.ev_pmul, ev_own1]
theorem bpE_own (p : Pl) (b tape z : List F) (own : F) (Wd Cs : Nat) (j : Nat) : ∀ k, F.ev own (bpE p b tape z own Wd Cs k j) = F.ev own ((polysOf p b tape).getD j [])
  | 0 => rfl
  | k + 1 => by
    show F.ev own (F.padd (bpE p b tape z own Wd Cs k j) (F.pmul [own, 1] (F.tp Wd (z.drop (k * Cs)) j))) = _
    rw [F.ev_padd, F.ev_pmul, ev_own1, F.add_self, F.zero_mul, F.add_zero, bpE_own p b tape z own Wd Cs j k]
theorem bpE_deg (p : Pl) (h : p.Ok) (K : Nat) (eK : p.T + p.L = K) (b tape z : List F) (own : F) (Wd Cs : Nat) (hW : Wd + 1 = K) (hW1 : 1 ≤ Wd) (hC : Wd * F.nS p.L.toNat b.length = Cs) (hlen : p.T.toNat * F.nS p.L.toNat b.length ≤ tape.length) (j : Nat) (hj : j < F.nS p.L.toNat b.length) : ∀ k, k * Cs ≤ z.length → (bpE p b tape z own Wd Cs k j).length ≤ K
  | 0, _ => polys_deg p h K eK b tape hlen j hj
  | k + 1, hk => by
    have e1 : (k + 1) * Cs = k * Cs + Cs := by rw [Nat.add_mul, Nat.one_mul]
    have ih := bpE_deg p h K eK b tape z own Wd Cs hW hW1 hC hlen j hj k (by omega)
    have h1 : (j + 1) * Wd ≤ (z.drop (k * Cs)).length := by
      rw [List.length_drop]
      have : (j + 1) * Wd ≤ Cs := by rw [← hC, Nat.mul_comm]; exact Nat.mul_le_mul_left _ hj
      omega
    have h2 := F.tp_len Wd (z.drop (k * Cs)) j h1
    show (F.padd (bpE p b tape z own Wd Cs k j) (F.pmul [own, 1] (F.tp Wd (z.drop (k * Cs)) j))).length ≤ K
    rw [F.padd_len, F.pmul_len (by simp) (List.ne_nil_of_length_pos (by omega)), h2]
    show max _ (2 + Wd - 1) ≤ K
    omega
/-- The target finds its own share. -/
theorem bp_find (p : Pl) (h : p.Ok) (K : Nat) (eK : p.T + p.L = K) (hK : K < 255) (b tape z : List F) (t0 : Int) (Wd Cs : Nat) (hW : Wd + 1 = K) (hW1 : 1 ≤ Wd) (hC : Wd * F.nS p.L.toNat b.length = Cs) (hlen : p.T.toNat * F.nS p.L.toNat b.length ≤ tape.length) (k : Nat) (hk : k * Cs ≤ z.length)
    (hs : List Int) (hd : (hs.map point).Nodup) (hKw : K ≤ hs.length) :
    F.findOf ((hs.take K).map point) (point t0) ((hs.map fun i => bpS p b tape z (point t0) Wd Cs k (point i)).take K) (F.nS p.L.toNat b.length) = F.dshare (polysOf p b tape) (point t0) := by
  have hxl : ((hs.map point).take K).length = K := by rw [List.length_take, List.length_map]; omega
  apply F.ext_at
  · rw [F.dshare_len, polys_len]
    simp [F.findOf]
  · intro j hj
    have hj : j < F.nS p.L.toNat b.length := by simpa [F.findOf] using hj
    show (F.findOf ((hs.take K).map point) (point t0) ((hs.map fun i => bpS p b tape z (point t0) Wd Cs k (point i)).take K) (F.nS p.L.toNat b.length)).getD j 0 = _
    have e1 : (F.findOf ((hs.take K).map point) (point t0) ((hs.map fun i => bpS p b tape z (point t0) Wd Cs k (point i)).take K) (F.nS p.L.toNat b.length)).getD j 0 = dot (F.wts ((hs.take K).map point) (point t0)) (F.colOf ((hs.map fun i => bpS p b tape z (point t0) Wd Cs k (point i)).take K) j) := by
      simp [F.findOf, List.getD_eq_getElem?_getD, hj]
    show _ = (F.dshare (polysOf p b tape) (point t0)).getD j 0
    rw [e1, F.dshare_at _ _ _ (by rw [polys_len]; exact hj), List.map_take,
      col_ev (hs.map point) K (by rw [List.length_map]; exact hKw) _ (by rw [List.length_map, List.length_map]) j (bpE p b tape z (point t0) Wd Cs k j) (fun q hq => by
        rw [List.length_map] at hq
        rw [map_getD hs _ 0 [] q hq, map_getD hs point 0 0 q hq, bpS_at _ _ _ _ _ _ _ _ _ _ hj]),
      F.dot_wts_ev (hd.sublist (List.take_sublist _ _)) (by omega) (by rw [hxl]; exact bpE_deg p h K eK b tape z (point t0) Wd Cs hW hW1 hC hlen j hj k hk), bpE_own]
theorem amE_good {p : Pl} {n : Nat} {t0 : Int} {hs : List Int} {parts : List (List F)} (hg : ∀ i ∈ hs, 1 ≤ i ∧ i ≤ p.N) (ht : t0 ∉ hs) (hd : hs.Nodup) (h3 : p.T + p.L ≤ (hs.length : Int)) (h4 : parts.length = hs.length) (h5 : ∀ r ∈ parts, r.length = n) : amE p n t0 hs parts = 0 := by
  unfold amE
  have e1 : hs.any (bad1 p t0) = false := List.any_eq_false.2 fun i hi => by
    have h1 := hg i hi
    have h2 : ¬ i = t0 := fun e => ht (e ▸ hi)
    simp [bad1, h1, h2]
  have e2 : parts.any (bad2 n) = false := List.any_eq_false.2 fun r hr => by simp [bad2, h5 r hr]
  rw [e1, e2, if_neg (by simp), if_neg (by simpa using hd), if_neg (by omega), if_neg (by simpa using h4), if_neg (by simp)]
end Go.Proofs.Ytijeabhfddaoaaa
