/- Plans: plain, no Go in sight. -/
import Derived.Test.YtijeabhfddaoaaaM2
namespace Go.Proofs.Sh
/-- A plan: how many custodians, how many may be seen, how many bytes a stripe has, how many must hold what counts; slots; ticks. -/
structure Pl where
  N : Int
  T : Int
  L : Int
  W : Int
  S : Int
  R : Int
/-- A plan that may be. -/
structure Pl.Ok (p : Pl) : Prop where
  t : 1 ≤ p.T
  l : 1 ≤ p.L
  tl : p.T + p.L ≤ p.W
  wn : p.W ≤ p.N
  nl : p.N + p.L ≤ 256
  s1 : 1 ≤ p.S
  s2 : p.S ≤ 256
  r1 : 1 ≤ p.R
  r2 : p.R ≤ 64
/-- Its numbers are ints. -/
structure Pl.In (p : Pl) : Prop where
  n : -9223372036854775808 ≤ p.N ∧ p.N ≤ 9223372036854775807
  t : -9223372036854775808 ≤ p.T ∧ p.T ≤ 9223372036854775807
  l : -9223372036854775808 ≤ p.L ∧ p.L ≤ 9223372036854775807
  w : -9223372036854775808 ≤ p.W ∧ p.W ≤ 9223372036854775807
  s : -9223372036854775808 ≤ p.S ∧ p.S ≤ 9223372036854775807
  r : -9223372036854775808 ≤ p.R ∧ p.R ≤ 9223372036854775807
theorem Pl.ok_iff (p : Pl) : p.Ok ↔ (1 ≤ p.T ∧ 1 ≤ p.L ∧ p.T + p.L ≤ p.W ∧ p.W ≤ p.N ∧ p.N + p.L ≤ 256 ∧ 1 ≤ p.S ∧ p.S ≤ 256 ∧ 1 ≤ p.R ∧ p.R ≤ 64) :=
  ⟨fun h => ⟨h.t, h.l, h.tl, h.wn, h.nl, h.s1, h.s2, h.r1, h.r2⟩, fun ⟨a, b, c, d, e, f, g, h, i⟩ => ⟨a, b, c, d, e, f, g, h, i⟩⟩
/-- A custodian's point. -/
def point (i : Int) : F := if 1 ≤ i ∧ i ≤ 256 then F.of (i - 1).toNat else 0
/-- The points of a stripe's bytes; all custodians. -/
def secretsAt (p : Pl) : List F := (List.range p.L.toNat).map fun i => F.of (p.N.toNat + i)
def allOf (p : Pl) : List Int := (List.range p.N.toNat).map fun i => ((i + 1 : Nat) : Int)
/-- How many stripes so many bytes need. -/
def stripesOf (p : Pl) (size : Int) : Int := if 1 ≤ size ∧ size ≤ 240 then (size + p.L - 1) / p.L else 0

theorem F_of_inj {i j : Nat} (hi : i < 256) (hj : j < 256) (h : F.of i = F.of j) : i = j := by rw [← F.n_of hi, ← F.n_of hj, h]
theorem points_all (p : Pl) (h : p.Ok) : (allOf p).map point = (List.range p.N.toNat).map F.of := by
  unfold allOf
  rw [List.map_map]
  apply List.map_congr_left
  intro i hi
  have hi' : i < p.N.toNat := List.mem_range.1 hi
  have h1 := h.nl
  have h2 := h.l
  show point ((i + 1 : Nat) : Int) = F.of i
  unfold point
  rw [if_pos (by omega)]
  congr 1
  omega
theorem points_secrets (p : Pl) (h : p.Ok) : (allOf p).map point ++ secretsAt p = (List.range (p.N.toNat + p.L.toNat)).map F.of := by
  rw [points_all p h, List.range_add, List.map_append, List.map_map]
  rfl
theorem nodup_map_of (n : Nat) (h : n ≤ 256) : ((List.range n).map F.of).Nodup := by
  rw [List.nodup_iff_pairwise_ne, List.pairwise_map]
  refine List.Pairwise.imp_of_mem ?_ (List.nodup_iff_pairwise_ne.1 List.nodup_range)
  intro a b ha hb hab e
  exact hab (F_of_inj (by have := List.mem_range.1 ha; omega) (by have := List.mem_range.1 hb; omega) e)
theorem points_unlike (p : Pl) (h : p.Ok) : ((allOf p).map point ++ secretsAt p).Nodup := by
  rw [points_secrets p h]
  exact nodup_map_of _ (by have := h.nl; have := h.l; have := h.tl; have := h.wn; have := h.t; omega)
theorem secrets_len (p : Pl) : (secretsAt p).length = p.L.toNat := by simp [secretsAt]
theorem all_len (p : Pl) : (allOf p).length = p.N.toNat := by simp [allOf]
end Go.Proofs.Sh
