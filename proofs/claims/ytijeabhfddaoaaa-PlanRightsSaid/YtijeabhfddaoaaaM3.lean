/- Plans: plain, no Go in sight. -/
import Derived.Test.YtijeabhfddaoaaaM2
namespace Go.Proofs.Sh
/-- A plan: how many custodians, how many may be seen, how many bytes a stripe has, how many must hold what counts; slots; ticks. -/
structure Pl where
  N : Int
  T : Int
  L : Int
  W : Int
  S : Int
  R : Int
/-- A plan that may be. -/
structure Pl.Ok (p : Pl) : Prop where
  t : 1 ≤ p.T
  l : 1 ≤ p.L
  tl : p.T + p.L ≤ p.W
  wn : p.W ≤ p.N
  nl : p.N + p.L ≤ 256
  s1 : 1 ≤ p.S
  s2 : p.S ≤ 256
  r1 : 1 ≤ p.R
  r2 : p.R ≤ 64
/-- Its numbers are ints. -/
structure Pl.In (p : Pl) : Prop where
  n : -9223372036854775808 ≤ p.N ∧ p.N ≤ 9223372036854775807
  t : -9223372036854775808 ≤ p.T ∧ p.T ≤ 9223372036854775807
  l : -9223372036854775808 ≤ p.L ∧ p.L ≤ 9223372036854775807
  w : -9223372036854775808 ≤ p.W ∧ p.W ≤ 9223372036854775807
  s : -9223372036854775808 ≤ p.S ∧ p.S ≤ 9223372036854775807
  r : -9223372036854775808 ≤ p.R ∧ p.R ≤ 9223372036854775807
theorem Pl.ok_iff (p : Pl) : p.Ok ↔ (1 ≤ p.T ∧ 1 ≤ p.L ∧ p.T + p.L ≤ p.W ∧ p.W ≤ p.N ∧ p.N + p.L ≤ 256 ∧ 1 ≤ p.S ∧ p.S ≤ 256 ∧ 1 ≤ p.R ∧ p.R ≤ 64) :=
  ⟨fun h => ⟨h.t, h.l, h.tl, h.wn, h.nl, h.s1, h.s2, h.r1, h.r2⟩, fun ⟨a, b, c, d, e, f, g, h, i⟩ => ⟨a, b, c, d, e, f, g, h, i⟩⟩
/-- A custodian's point. -/
def point (i : Int) : F := if 1 ≤ i ∧ i ≤ 256 then F.of (i - 1).toNat else 0
/-- The points of a stripe's bytes; all custodians. -/
def secretsAt (p : Pl) : List F := (List.range p.L.toNat).map fun i => F.of (p.N.toNat + i)
def allOf (p : Pl) : List Int := (List.range p.N.toNat).map fun i => ((i + 1 : Nat) : Int)
/-- How many stripes so many bytes need. -/
def stripesOf (p : Pl) (size : Int) : Int := if 1 ≤ size ∧ size ≤ 240 then (size + p.L - 1) / p.L else 0
end Go.Proofs.Sh
