/-
  No cell of these rows narrows 'for every input' (looked for: loops, veiled, ifaces, maps, wideKeys, modest, calm, conditions, laid).
  DERIVED. THE GIVEN ROWS OF THIS SEAT. 35 by the template 'for every input the law returns true; each argument reads behind the call as it read before'; 0 by the template 'total and deterministic' (their statements: YtijeabhfddaoaaaTotals.lean).
  GIVEN WITH THE SEED: the statements are not yours to turn. If you find one false, say at which input.
  Laid BY PROGRAM, IN A SANDBOX (cutbox-rows.mjs): the forced cells as the released guide's own fill.sh prints them over the translation 9c79fbdbf6532949… (all of the seat's roots in one cut). By AI agents, Wed Nov 11 2026. No macro, syntax, notation, axiom, sorry.
-/
import Derived.Test.YtijeabhfddaoaaaChecked
import GoSem.Claim
import GoSem.ClaimJoined
import GoSem.ClaimMapViews
import Derived.JoinedTies
import Derived.KernelRfl
namespace Go.Proofs.Ytijeabhfddaoaaa
/- THE CELL 'sum', in the pinned program and in every row, IS THE sha256 OF THE DUMP (.gsa) THAT YtijeabhfddaoaaaProg.lean LOADS. Nothing in Lean hashes anything: it is a label: what it is worth is what the hold of that sum in a sandbox is worth. -/
noncomputable def Try.pinned : Pinned := { name := "ytijeabhfddaoaaa", sum := "9c79fbdbf6532949ad07478a1b8c8906d40a264b0b93518646d68b9b2f3e3be9", checked := Try.checked }
namespace Rows
def none {H : Type} : Left H := { results := [], args := [] }

/-- 'sherdlaw01.GfMuls': WHATEVER THE INPUT: true; the input reads as it did. -/
def gfMulsSpec : ChangeSpec := { name := "gfMuls", fn := fun _ => fun
  | [d1, d2] => { results := [.lit (.bool true)], args := [d1, d2] }
  | _ => none }
def gfMulsRow : OpenClaim := { program := "ytijeabhfddaoaaa", sum := "9c79fbdbf6532949ad07478a1b8c8906d40a264b0b93518646d68b9b2f3e3be9", func := "sherd/sherdlaw01.GfMuls", spec := "gfMuls", apart := false }
def GfMulsSaid : Prop := gfMulsRow.holds Try.pinned (OpenSpec.ofChange gfMulsSpec)

/-- ITS FALSE NEIGHBOUR: 'it returns false'. Refute it at one input. -/
def gfMulsWrong : ChangeSpec := { name := "gfMuls", fn := fun _ => fun
  | [d1, d2] => { results := [.lit (.bool false)], args := [d1, d2] }
  | _ => none }
def GfMulsWrongFalsely : Prop := gfMulsRow.holds Try.pinned (OpenSpec.ofChange gfMulsWrong)

/-- 'sherdlaw01.GfField': WHATEVER THE INPUT: true; the input reads as it did. -/
def gfFieldSpec : ChangeSpec := { name := "gfField", fn := fun _ => fun
  | [d1, d2, d3] => { results := [.lit (.bool true)], args := [d1, d2, d3] }
  | _ => none }
def gfFieldRow : OpenClaim := { program := "ytijeabhfddaoaaa", sum := "9c79fbdbf6532949ad07478a1b8c8906d40a264b0b93518646d68b9b2f3e3be9", func := "sherd/sherdlaw01.GfField", spec := "gfField", apart := false }
def GfFieldSaid : Prop := gfFieldRow.holds Try.pinned (OpenSpec.ofChange gfFieldSpec)

/-- ITS FALSE NEIGHBOUR: 'it returns false'. Refute it at one input. -/
def gfFieldWrong : ChangeSpec := { name := "gfField", fn := fun _ => fun
  | [d1, d2, d3] => { results := [.lit (.bool false)], args := [d1, d2, d3] }
  | _ => none }
def GfFieldWrongFalsely : Prop := gfFieldRow.holds Try.pinned (OpenSpec.ofChange gfFieldWrong)

/-- 'sherdlaw01.GfPowers': WHATEVER THE INPUT: true; the input reads as it did. -/
def gfPowersSpec : ChangeSpec := { name := "gfPowers", fn := fun _ => fun
  | [d1, d2, d3] => { results := [.lit (.bool true)], args := [d1, d2, d3] }
  | _ => none }
def gfPowersRow : OpenClaim := { program := "ytijeabhfddaoaaa", sum := "9c79fbdbf6532949ad07478a1b8c8906d40a264b0b93518646d68b9b2f3e3be9", func := "sherd/sherdlaw01.GfPowers", spec := "gfPowers", recurses := true, apart := false }
def GfPowersSaid : Prop := gfPowersRow.holds Try.pinned (OpenSpec.ofChange gfPowersSpec)

/-- ITS FALSE NEIGHBOUR: 'it returns false'. Refute it at one input. -/
def gfPowersWrong : ChangeSpec := { name := "gfPowers", fn := fun _ => fun
  | [d1, d2, d3] => { results := [.lit (.bool false)], args := [d1, d2, d3] }
  | _ => none }
def GfPowersWrongFalsely : Prop := gfPowersRow.holds Try.pinned (OpenSpec.ofChange gfPowersWrong)

/-- 'sherdlaw08.PlanMeets': WHATEVER THE INPUT: true; the input reads as it did. -/
def planMeetsSpec : ChangeSpec := { name := "planMeets", fn := fun _ => fun
  | [d1, d2, d3] => { results := [.lit (.bool true)], args := [d1, d2, d3] }
  | _ => none }
def planMeetsRow : OpenClaim := { program := "ytijeabhfddaoaaa", sum := "9c79fbdbf6532949ad07478a1b8c8906d40a264b0b93518646d68b9b2f3e3be9", func := "sherd/sherdlaw08.PlanMeets", spec := "planMeets", unfollowed := true, recurses := true, apart := false }
def PlanMeetsSaid : Prop := planMeetsRow.holds Try.pinned (OpenSpec.ofChange planMeetsSpec)

/-- ITS FALSE NEIGHBOUR: 'it returns false'. Refute it at one input. -/
def planMeetsWrong : ChangeSpec := { name := "planMeets", fn := fun _ => fun
  | [d1, d2, d3] => { results := [.lit (.bool false)], args := [d1, d2, d3] }
  | _ => none }
def PlanMeetsWrongFalsely : Prop := planMeetsRow.holds Try.pinned (OpenSpec.ofChange planMeetsWrong)

/-- 'sherdlaw01.GfDots': WHATEVER THE INPUT: true; the input reads as it did. -/
def gfDotsSpec : ChangeSpec := { name := "gfDots", fn := fun _ => fun
  | [d1, d2] => { results := [.lit (.bool true)], args := [d1, d2] }
  | _ => none }
def gfDotsRow : OpenClaim := { program := "ytijeabhfddaoaaa", sum := "9c79fbdbf6532949ad07478a1b8c8906d40a264b0b93518646d68b9b2f3e3be9", func := "sherd/sherdlaw01.GfDots", spec := "gfDots", unfollowed := true, recurses := true, apart := false }
def GfDotsSaid : Prop := gfDotsRow.holds Try.pinned (OpenSpec.ofChange gfDotsSpec)

/-- ITS FALSE NEIGHBOUR: 'it returns false'. Refute it at one input. -/
def gfDotsWrong : ChangeSpec := { name := "gfDots", fn := fun _ => fun
  | [d1, d2] => { results := [.lit (.bool false)], args := [d1, d2] }
  | _ => none }
def GfDotsWrongFalsely : Prop := gfDotsRow.holds Try.pinned (OpenSpec.ofChange gfDotsWrong)

/-- 'sherdlaw08.PlanPoints': WHATEVER THE INPUT: true; the input reads as it did. -/
def planPointsSpec : ChangeSpec := { name := "planPoints", fn := fun _ => fun
  | [d] => { results := [.lit (.bool true)], args := [d] }
  | _ => none }
def planPointsRow : OpenClaim := { program := "ytijeabhfddaoaaa", sum := "9c79fbdbf6532949ad07478a1b8c8906d40a264b0b93518646d68b9b2f3e3be9", func := "sherd/sherdlaw08.PlanPoints", spec := "planPoints", unfollowed := true, recurses := true, apart := false }
def PlanPointsSaid : Prop := planPointsRow.holds Try.pinned (OpenSpec.ofChange planPointsSpec)

/-- ITS FALSE NEIGHBOUR: 'it returns false'. Refute it at one input. -/
def planPointsWrong : ChangeSpec := { name := "planPoints", fn := fun _ => fun
  | [d] => { results := [.lit (.bool false)], args := [d] }
  | _ => none }
def PlanPointsWrongFalsely : Prop := planPointsRow.holds Try.pinned (OpenSpec.ofChange planPointsWrong)

/-- 'sherdlaw08.PlanRights': WHATEVER THE INPUT: true; the input reads as it did. -/
def planRightsSpec : ChangeSpec := { name := "planRights", fn := fun _ => fun
  | [d1, d2, d3] => { results := [.lit (.bool true)], args := [d1, d2, d3] }
  | _ => none }
def planRightsRow : OpenClaim := { program := "ytijeabhfddaoaaa", sum := "9c79fbdbf6532949ad07478a1b8c8906d40a264b0b93518646d68b9b2f3e3be9", func := "sherd/sherdlaw08.PlanRights", spec := "planRights", unfollowed := true, recurses := true, apart := false }
def PlanRightsSaid : Prop := planRightsRow.holds Try.pinned (OpenSpec.ofChange planRightsSpec)

/-- ITS FALSE NEIGHBOUR: 'it returns false'. Refute it at one input. -/
def planRightsWrong : ChangeSpec := { name := "planRights", fn := fun _ => fun
  | [d1, d2, d3] => { results := [.lit (.bool false)], args := [d1, d2, d3] }
  | _ => none }
def PlanRightsWrongFalsely : Prop := planRightsRow.holds Try.pinned (OpenSpec.ofChange planRightsWrong)

/-- 'sherdlaw02.PolyMuls': WHATEVER THE INPUT: true; the input reads as it did. -/
def polyMulsSpec : ChangeSpec := { name := "polyMuls", fn := fun _ => fun
  | [d1, d2, d3] => { results := [.lit (.bool true)], args := [d1, d2, d3] }
  | _ => none }
def polyMulsRow : OpenClaim := { program := "ytijeabhfddaoaaa", sum := "9c79fbdbf6532949ad07478a1b8c8906d40a264b0b93518646d68b9b2f3e3be9", func := "sherd/sherdlaw02.PolyMuls", spec := "polyMuls", apart := false }
def PolyMulsSaid : Prop := polyMulsRow.holds Try.pinned (OpenSpec.ofChange polyMulsSpec)

/-- ITS FALSE NEIGHBOUR: 'it returns false'. Refute it at one input. -/
def polyMulsWrong : ChangeSpec := { name := "polyMuls", fn := fun _ => fun
  | [d1, d2, d3] => { results := [.lit (.bool false)], args := [d1, d2, d3] }
  | _ => none }
def PolyMulsWrongFalsely : Prop := polyMulsRow.holds Try.pinned (OpenSpec.ofChange polyMulsWrong)

/-- 'sherdlaw02.PolyOvers': WHATEVER THE INPUT: true; the input reads as it did. -/
def polyOversSpec : ChangeSpec := { name := "polyOvers", fn := fun _ => fun
  | [d1, d2] => { results := [.lit (.bool true)], args := [d1, d2] }
  | _ => none }
def polyOversRow : OpenClaim := { program := "ytijeabhfddaoaaa", sum := "9c79fbdbf6532949ad07478a1b8c8906d40a264b0b93518646d68b9b2f3e3be9", func := "sherd/sherdlaw02.PolyOvers", spec := "polyOvers", apart := false }
def PolyOversSaid : Prop := polyOversRow.holds Try.pinned (OpenSpec.ofChange polyOversSpec)

/-- ITS FALSE NEIGHBOUR: 'it returns false'. Refute it at one input. -/
def polyOversWrong : ChangeSpec := { name := "polyOvers", fn := fun _ => fun
  | [d1, d2] => { results := [.lit (.bool false)], args := [d1, d2] }
  | _ => none }
def PolyOversWrongFalsely : Prop := polyOversRow.holds Try.pinned (OpenSpec.ofChange polyOversWrong)

/-- 'sherdlaw02.PolyRoots': WHATEVER THE INPUT: true; the input reads as it did. -/
def polyRootsSpec : ChangeSpec := { name := "polyRoots", fn := fun _ => fun
  | [d1, d2] => { results := [.lit (.bool true)], args := [d1, d2] }
  | _ => none }
def polyRootsRow : OpenClaim := { program := "ytijeabhfddaoaaa", sum := "9c79fbdbf6532949ad07478a1b8c8906d40a264b0b93518646d68b9b2f3e3be9", func := "sherd/sherdlaw02.PolyRoots", spec := "polyRoots", apart := false }
def PolyRootsSaid : Prop := polyRootsRow.holds Try.pinned (OpenSpec.ofChange polyRootsSpec)

/-- ITS FALSE NEIGHBOUR: 'it returns false'. Refute it at one input. -/
def polyRootsWrong : ChangeSpec := { name := "polyRoots", fn := fun _ => fun
  | [d1, d2] => { results := [.lit (.bool false)], args := [d1, d2] }
  | _ => none }
def PolyRootsWrongFalsely : Prop := polyRootsRow.holds Try.pinned (OpenSpec.ofChange polyRootsWrong)

/-- 'sherdlaw02.PolyEvals': WHATEVER THE INPUT: true; the input reads as it did. -/
def polyEvalsSpec : ChangeSpec := { name := "polyEvals", fn := fun _ => fun
  | [d1, d2, d3] => { results := [.lit (.bool true)], args := [d1, d2, d3] }
  | _ => none }
def polyEvalsRow : OpenClaim := { program := "ytijeabhfddaoaaa", sum := "9c79fbdbf6532949ad07478a1b8c8906d40a264b0b93518646d68b9b2f3e3be9", func := "sherd/sherdlaw02.PolyEvals", spec := "polyEvals", apart := false }
def PolyEvalsSaid : Prop := polyEvalsRow.holds Try.pinned (OpenSpec.ofChange polyEvalsSpec)

/-- ITS FALSE NEIGHBOUR: 'it returns false'. Refute it at one input. -/
def polyEvalsWrong : ChangeSpec := { name := "polyEvals", fn := fun _ => fun
  | [d1, d2, d3] => { results := [.lit (.bool false)], args := [d1, d2, d3] }
  | _ => none }
def PolyEvalsWrongFalsely : Prop := polyEvalsRow.holds Try.pinned (OpenSpec.ofChange polyEvalsWrong)

/-- 'sherdlaw09.StripeCuts': WHATEVER THE INPUT: true; the input reads as it did. -/
def stripeCutsSpec : ChangeSpec := { name := "stripeCuts", fn := fun _ => fun
  | [d1, d2] => { results := [.lit (.bool true)], args := [d1, d2] }
  | _ => none }
def stripeCutsRow : OpenClaim := { program := "ytijeabhfddaoaaa", sum := "9c79fbdbf6532949ad07478a1b8c8906d40a264b0b93518646d68b9b2f3e3be9", func := "sherd/sherdlaw09.StripeCuts", spec := "stripeCuts", unfollowed := true, recurses := true, apart := false }
def StripeCutsSaid : Prop := stripeCutsRow.holds Try.pinned (OpenSpec.ofChange stripeCutsSpec)

/-- ITS FALSE NEIGHBOUR: 'it returns false'. Refute it at one input. -/
def stripeCutsWrong : ChangeSpec := { name := "stripeCuts", fn := fun _ => fun
  | [d1, d2] => { results := [.lit (.bool false)], args := [d1, d2] }
  | _ => none }
def StripeCutsWrongFalsely : Prop := stripeCutsRow.holds Try.pinned (OpenSpec.ofChange stripeCutsWrong)

/-- 'sherdlaw09.StripeJoins': WHATEVER THE INPUT: true; the input reads as it did. -/
def stripeJoinsSpec : ChangeSpec := { name := "stripeJoins", fn := fun _ => fun
  | [d1, d2, d3] => { results := [.lit (.bool true)], args := [d1, d2, d3] }
  | _ => none }
def stripeJoinsRow : OpenClaim := { program := "ytijeabhfddaoaaa", sum := "9c79fbdbf6532949ad07478a1b8c8906d40a264b0b93518646d68b9b2f3e3be9", func := "sherd/sherdlaw09.StripeJoins", spec := "stripeJoins", unfollowed := true, recurses := true, apart := false }
def StripeJoinsSaid : Prop := stripeJoinsRow.holds Try.pinned (OpenSpec.ofChange stripeJoinsSpec)

/-- ITS FALSE NEIGHBOUR: 'it returns false'. Refute it at one input. -/
def stripeJoinsWrong : ChangeSpec := { name := "stripeJoins", fn := fun _ => fun
  | [d1, d2, d3] => { results := [.lit (.bool false)], args := [d1, d2, d3] }
  | _ => none }
def StripeJoinsWrongFalsely : Prop := stripeJoinsRow.holds Try.pinned (OpenSpec.ofChange stripeJoinsWrong)

/-- 'sherdlaw13.BlindShares': WHATEVER THE INPUT: true; the input reads as it did. -/
def blindSharesSpec : ChangeSpec := { name := "blindShares", fn := fun _ => fun
  | [d1, d2, d3] => { results := [.lit (.bool true)], args := [d1, d2, d3] }
  | _ => none }
def blindSharesRow : OpenClaim := { program := "ytijeabhfddaoaaa", sum := "9c79fbdbf6532949ad07478a1b8c8906d40a264b0b93518646d68b9b2f3e3be9", func := "sherd/sherdlaw13.BlindShares", spec := "blindShares", unfollowed := true, recurses := true, apart := false }
def BlindSharesSaid : Prop := blindSharesRow.holds Try.pinned (OpenSpec.ofChange blindSharesSpec)

/-- ITS FALSE NEIGHBOUR: 'it returns false'. Refute it at one input. -/
def blindSharesWrong : ChangeSpec := { name := "blindShares", fn := fun _ => fun
  | [d1, d2, d3] => { results := [.lit (.bool false)], args := [d1, d2, d3] }
  | _ => none }
def BlindSharesWrongFalsely : Prop := blindSharesRow.holds Try.pinned (OpenSpec.ofChange blindSharesWrong)

/-- 'sherdlaw04.MatrixInverts': WHATEVER THE INPUT: true; the input reads as it did. -/
def matrixInvertsSpec : ChangeSpec := { name := "matrixInverts", fn := fun _ => fun
  | [d] => { results := [.lit (.bool true)], args := [d] }
  | _ => none }
def matrixInvertsRow : OpenClaim := { program := "ytijeabhfddaoaaa", sum := "9c79fbdbf6532949ad07478a1b8c8906d40a264b0b93518646d68b9b2f3e3be9", func := "sherd/sherdlaw04.MatrixInverts", spec := "matrixInverts", unfollowed := true, recurses := true, apart := false }
def MatrixInvertsSaid : Prop := matrixInvertsRow.holds Try.pinned (OpenSpec.ofChange matrixInvertsSpec)

/-- ITS FALSE NEIGHBOUR: 'it returns false'. Refute it at one input. -/
def matrixInvertsWrong : ChangeSpec := { name := "matrixInverts", fn := fun _ => fun
  | [d] => { results := [.lit (.bool false)], args := [d] }
  | _ => none }
def MatrixInvertsWrongFalsely : Prop := matrixInvertsRow.holds Try.pinned (OpenSpec.ofChange matrixInvertsWrong)

/-- 'sherdlaw03.LagrOnce': WHATEVER THE INPUT: true; the input reads as it did. -/
def lagrOnceSpec : ChangeSpec := { name := "lagrOnce", fn := fun _ => fun
  | [d1, d2] => { results := [.lit (.bool true)], args := [d1, d2] }
  | _ => none }
def lagrOnceRow : OpenClaim := { program := "ytijeabhfddaoaaa", sum := "9c79fbdbf6532949ad07478a1b8c8906d40a264b0b93518646d68b9b2f3e3be9", func := "sherd/sherdlaw03.LagrOnce", spec := "lagrOnce", unfollowed := true, recurses := true, apart := false }
def LagrOnceSaid : Prop := lagrOnceRow.holds Try.pinned (OpenSpec.ofChange lagrOnceSpec)

/-- ITS FALSE NEIGHBOUR: 'it returns false'. Refute it at one input. -/
def lagrOnceWrong : ChangeSpec := { name := "lagrOnce", fn := fun _ => fun
  | [d1, d2] => { results := [.lit (.bool false)], args := [d1, d2] }
  | _ => none }
def LagrOnceWrongFalsely : Prop := lagrOnceRow.holds Try.pinned (OpenSpec.ofChange lagrOnceWrong)

/-- 'sherdlaw03.LagrWeights': WHATEVER THE INPUT: true; the input reads as it did. -/
def lagrWeightsSpec : ChangeSpec := { name := "lagrWeights", fn := fun _ => fun
  | [d1, d2, d3] => { results := [.lit (.bool true)], args := [d1, d2, d3] }
  | _ => none }
def lagrWeightsRow : OpenClaim := { program := "ytijeabhfddaoaaa", sum := "9c79fbdbf6532949ad07478a1b8c8906d40a264b0b93518646d68b9b2f3e3be9", func := "sherd/sherdlaw03.LagrWeights", spec := "lagrWeights", unfollowed := true, recurses := true, apart := false }
def LagrWeightsSaid : Prop := lagrWeightsRow.holds Try.pinned (OpenSpec.ofChange lagrWeightsSpec)

/-- ITS FALSE NEIGHBOUR: 'it returns false'. Refute it at one input. -/
def lagrWeightsWrong : ChangeSpec := { name := "lagrWeights", fn := fun _ => fun
  | [d1, d2, d3] => { results := [.lit (.bool false)], args := [d1, d2, d3] }
  | _ => none }
def LagrWeightsWrongFalsely : Prop := lagrWeightsRow.holds Try.pinned (OpenSpec.ofChange lagrWeightsWrong)

/-- 'sherdlaw12.ZeroShares': WHATEVER THE INPUT: true; the input reads as it did. -/
def zeroSharesSpec : ChangeSpec := { name := "zeroShares", fn := fun _ => fun
  | [d1, d2, d3] => { results := [.lit (.bool true)], args := [d1, d2, d3] }
  | _ => none }
def zeroSharesRow : OpenClaim := { program := "ytijeabhfddaoaaa", sum := "9c79fbdbf6532949ad07478a1b8c8906d40a264b0b93518646d68b9b2f3e3be9", func := "sherd/sherdlaw12.ZeroShares", spec := "zeroShares", unfollowed := true, recurses := true, apart := false }
def ZeroSharesSaid : Prop := zeroSharesRow.holds Try.pinned (OpenSpec.ofChange zeroSharesSpec)

/-- ITS FALSE NEIGHBOUR: 'it returns false'. Refute it at one input. -/
def zeroSharesWrong : ChangeSpec := { name := "zeroShares", fn := fun _ => fun
  | [d1, d2, d3] => { results := [.lit (.bool false)], args := [d1, d2, d3] }
  | _ => none }
def ZeroSharesWrongFalsely : Prop := zeroSharesRow.holds Try.pinned (OpenSpec.ofChange zeroSharesWrong)

/-- 'sherdlaw12.ZeroAdds': WHATEVER THE INPUT: true; the input reads as it did. -/
def zeroAddsSpec : ChangeSpec := { name := "zeroAdds", fn := fun _ => fun
  | [d] => { results := [.lit (.bool true)], args := [d] }
  | _ => none }
def zeroAddsRow : OpenClaim := { program := "ytijeabhfddaoaaa", sum := "9c79fbdbf6532949ad07478a1b8c8906d40a264b0b93518646d68b9b2f3e3be9", func := "sherd/sherdlaw12.ZeroAdds", spec := "zeroAdds", unfollowed := true, recurses := true, apart := false }
def ZeroAddsSaid : Prop := zeroAddsRow.holds Try.pinned (OpenSpec.ofChange zeroAddsSpec)

/-- ITS FALSE NEIGHBOUR: 'it returns false'. Refute it at one input. -/
def zeroAddsWrong : ChangeSpec := { name := "zeroAdds", fn := fun _ => fun
  | [d] => { results := [.lit (.bool false)], args := [d] }
  | _ => none }
def ZeroAddsWrongFalsely : Prop := zeroAddsRow.holds Try.pinned (OpenSpec.ofChange zeroAddsWrong)

/-- 'sherdlaw03.LagrThroughs': WHATEVER THE INPUT: true; the input reads as it did. -/
def lagrThroughsSpec : ChangeSpec := { name := "lagrThroughs", fn := fun _ => fun
  | [d1, d2, d3] => { results := [.lit (.bool true)], args := [d1, d2, d3] }
  | _ => none }
def lagrThroughsRow : OpenClaim := { program := "ytijeabhfddaoaaa", sum := "9c79fbdbf6532949ad07478a1b8c8906d40a264b0b93518646d68b9b2f3e3be9", func := "sherd/sherdlaw03.LagrThroughs", spec := "lagrThroughs", unfollowed := true, recurses := true, apart := false }
def LagrThroughsSaid : Prop := lagrThroughsRow.holds Try.pinned (OpenSpec.ofChange lagrThroughsSpec)

/-- ITS FALSE NEIGHBOUR: 'it returns false'. Refute it at one input. -/
def lagrThroughsWrong : ChangeSpec := { name := "lagrThroughs", fn := fun _ => fun
  | [d1, d2, d3] => { results := [.lit (.bool false)], args := [d1, d2, d3] }
  | _ => none }
def LagrThroughsWrongFalsely : Prop := lagrThroughsRow.holds Try.pinned (OpenSpec.ofChange lagrThroughsWrong)

/-- 'sherdlaw04.MatrixMuls': WHATEVER THE INPUT: true; the input reads as it did. -/
def matrixMulsSpec : ChangeSpec := { name := "matrixMuls", fn := fun _ => fun
  | [d1, d2, d3] => { results := [.lit (.bool true)], args := [d1, d2, d3] }
  | _ => none }
def matrixMulsRow : OpenClaim := { program := "ytijeabhfddaoaaa", sum := "9c79fbdbf6532949ad07478a1b8c8906d40a264b0b93518646d68b9b2f3e3be9", func := "sherd/sherdlaw04.MatrixMuls", spec := "matrixMuls", unfollowed := true, recurses := true, apart := false }
def MatrixMulsSaid : Prop := matrixMulsRow.holds Try.pinned (OpenSpec.ofChange matrixMulsSpec)

/-- ITS FALSE NEIGHBOUR: 'it returns false'. Refute it at one input. -/
def matrixMulsWrong : ChangeSpec := { name := "matrixMuls", fn := fun _ => fun
  | [d1, d2, d3] => { results := [.lit (.bool false)], args := [d1, d2, d3] }
  | _ => none }
def MatrixMulsWrongFalsely : Prop := matrixMulsRow.holds Try.pinned (OpenSpec.ofChange matrixMulsWrong)

/-- 'sherdlaw10.DealSums': WHATEVER THE INPUT: true; the input reads as it did. -/
def dealSumsSpec : ChangeSpec := { name := "dealSums", fn := fun _ => fun
  | [d1, d2, d3] => { results := [.lit (.bool true)], args := [d1, d2, d3] }
  | _ => none }
def dealSumsRow : OpenClaim := { program := "ytijeabhfddaoaaa", sum := "9c79fbdbf6532949ad07478a1b8c8906d40a264b0b93518646d68b9b2f3e3be9", func := "sherd/sherdlaw10.DealSums", spec := "dealSums", unfollowed := true, recurses := true, apart := false }
def DealSumsSaid : Prop := dealSumsRow.holds Try.pinned (OpenSpec.ofChange dealSumsSpec)

/-- ITS FALSE NEIGHBOUR: 'it returns false'. Refute it at one input. -/
def dealSumsWrong : ChangeSpec := { name := "dealSums", fn := fun _ => fun
  | [d1, d2, d3] => { results := [.lit (.bool false)], args := [d1, d2, d3] }
  | _ => none }
def DealSumsWrongFalsely : Prop := dealSumsRow.holds Try.pinned (OpenSpec.ofChange dealSumsWrong)

/-- 'sherdlaw13.BlindFinds': WHATEVER THE INPUT: true; the input reads as it did. -/
def blindFindsSpec : ChangeSpec := { name := "blindFinds", fn := fun _ => fun
  | [d1, d2] => { results := [.lit (.bool true)], args := [d1, d2] }
  | _ => none }
def blindFindsRow : OpenClaim := { program := "ytijeabhfddaoaaa", sum := "9c79fbdbf6532949ad07478a1b8c8906d40a264b0b93518646d68b9b2f3e3be9", func := "sherd/sherdlaw13.BlindFinds", spec := "blindFinds", unfollowed := true, recurses := true, apart := false }
def BlindFindsSaid : Prop := blindFindsRow.holds Try.pinned (OpenSpec.ofChange blindFindsSpec)

/-- ITS FALSE NEIGHBOUR: 'it returns false'. Refute it at one input. -/
def blindFindsWrong : ChangeSpec := { name := "blindFinds", fn := fun _ => fun
  | [d1, d2] => { results := [.lit (.bool false)], args := [d1, d2] }
  | _ => none }
def BlindFindsWrongFalsely : Prop := blindFindsRow.holds Try.pinned (OpenSpec.ofChange blindFindsWrong)

/-- 'sherdlaw10.DealShares': WHATEVER THE INPUT: true; the input reads as it did. -/
def dealSharesSpec : ChangeSpec := { name := "dealShares", fn := fun _ => fun
  | [d1, d2, d3] => { results := [.lit (.bool true)], args := [d1, d2, d3] }
  | _ => none }
def dealSharesRow : OpenClaim := { program := "ytijeabhfddaoaaa", sum := "9c79fbdbf6532949ad07478a1b8c8906d40a264b0b93518646d68b9b2f3e3be9", func := "sherd/sherdlaw10.DealShares", spec := "dealShares", unfollowed := true, recurses := true, apart := false }
def DealSharesSaid : Prop := dealSharesRow.holds Try.pinned (OpenSpec.ofChange dealSharesSpec)

/-- ITS FALSE NEIGHBOUR: 'it returns false'. Refute it at one input. -/
def dealSharesWrong : ChangeSpec := { name := "dealShares", fn := fun _ => fun
  | [d1, d2, d3] => { results := [.lit (.bool false)], args := [d1, d2, d3] }
  | _ => none }
def DealSharesWrongFalsely : Prop := dealSharesRow.holds Try.pinned (OpenSpec.ofChange dealSharesWrong)

/-- 'sherdlaw04.MatrixPowers': WHATEVER THE INPUT: true; the input reads as it did. -/
def matrixPowersSpec : ChangeSpec := { name := "matrixPowers", fn := fun _ => fun
  | [d1, d2] => { results := [.lit (.bool true)], args := [d1, d2] }
  | _ => none }
def matrixPowersRow : OpenClaim := { program := "ytijeabhfddaoaaa", sum := "9c79fbdbf6532949ad07478a1b8c8906d40a264b0b93518646d68b9b2f3e3be9", func := "sherd/sherdlaw04.MatrixPowers", spec := "matrixPowers", unfollowed := true, recurses := true, apart := false }
def MatrixPowersSaid : Prop := matrixPowersRow.holds Try.pinned (OpenSpec.ofChange matrixPowersSpec)

/-- ITS FALSE NEIGHBOUR: 'it returns false'. Refute it at one input. -/
def matrixPowersWrong : ChangeSpec := { name := "matrixPowers", fn := fun _ => fun
  | [d1, d2] => { results := [.lit (.bool false)], args := [d1, d2] }
  | _ => none }
def MatrixPowersWrongFalsely : Prop := matrixPowersRow.holds Try.pinned (OpenSpec.ofChange matrixPowersWrong)

/-- 'sherdlaw13.BlindBack': WHATEVER THE INPUT: true; the input reads as it did. -/
def blindBackSpec : ChangeSpec := { name := "blindBack", fn := fun _ => fun
  | [d1, d2, d3] => { results := [.lit (.bool true)], args := [d1, d2, d3] }
  | _ => none }
def blindBackRow : OpenClaim := { program := "ytijeabhfddaoaaa", sum := "9c79fbdbf6532949ad07478a1b8c8906d40a264b0b93518646d68b9b2f3e3be9", func := "sherd/sherdlaw13.BlindBack", spec := "blindBack", unfollowed := true, recurses := true, apart := false }
def BlindBackSaid : Prop := blindBackRow.holds Try.pinned (OpenSpec.ofChange blindBackSpec)

/-- ITS FALSE NEIGHBOUR: 'it returns false'. Refute it at one input. -/
def blindBackWrong : ChangeSpec := { name := "blindBack", fn := fun _ => fun
  | [d1, d2, d3] => { results := [.lit (.bool false)], args := [d1, d2, d3] }
  | _ => none }
def BlindBackWrongFalsely : Prop := blindBackRow.holds Try.pinned (OpenSpec.ofChange blindBackWrong)

/-- 'sherdlaw14.MaskShifts': WHATEVER THE INPUT: true; the input reads as it did. -/
def maskShiftsSpec : ChangeSpec := { name := "maskShifts", fn := fun _ => fun
  | [d1, d2, d3] => { results := [.lit (.bool true)], args := [d1, d2, d3] }
  | _ => none }
def maskShiftsRow : OpenClaim := { program := "ytijeabhfddaoaaa", sum := "9c79fbdbf6532949ad07478a1b8c8906d40a264b0b93518646d68b9b2f3e3be9", func := "sherd/sherdlaw14.MaskShifts", spec := "maskShifts", unfollowed := true, recurses := true, apart := false }
def MaskShiftsSaid : Prop := maskShiftsRow.holds Try.pinned (OpenSpec.ofChange maskShiftsSpec)

/-- ITS FALSE NEIGHBOUR: 'it returns false'. Refute it at one input. -/
def maskShiftsWrong : ChangeSpec := { name := "maskShifts", fn := fun _ => fun
  | [d1, d2, d3] => { results := [.lit (.bool false)], args := [d1, d2, d3] }
  | _ => none }
def MaskShiftsWrongFalsely : Prop := maskShiftsRow.holds Try.pinned (OpenSpec.ofChange maskShiftsWrong)

/-- 'sherdlaw14.MaskTurns': WHATEVER THE INPUT: true; the input reads as it did. -/
def maskTurnsSpec : ChangeSpec := { name := "maskTurns", fn := fun _ => fun
  | [d1, d2, d3] => { results := [.lit (.bool true)], args := [d1, d2, d3] }
  | _ => none }
def maskTurnsRow : OpenClaim := { program := "ytijeabhfddaoaaa", sum := "9c79fbdbf6532949ad07478a1b8c8906d40a264b0b93518646d68b9b2f3e3be9", func := "sherd/sherdlaw14.MaskTurns", spec := "maskTurns", unfollowed := true, recurses := true, apart := false }
def MaskTurnsSaid : Prop := maskTurnsRow.holds Try.pinned (OpenSpec.ofChange maskTurnsSpec)

/-- ITS FALSE NEIGHBOUR: 'it returns false'. Refute it at one input. -/
def maskTurnsWrong : ChangeSpec := { name := "maskTurns", fn := fun _ => fun
  | [d1, d2, d3] => { results := [.lit (.bool false)], args := [d1, d2, d3] }
  | _ => none }
def MaskTurnsWrongFalsely : Prop := maskTurnsRow.holds Try.pinned (OpenSpec.ofChange maskTurnsWrong)

/-- 'sherdlaw14.MaskMasks': WHATEVER THE INPUT: true; the input reads as it did. -/
def maskMasksSpec : ChangeSpec := { name := "maskMasks", fn := fun _ => fun
  | [d1, d2, d3] => { results := [.lit (.bool true)], args := [d1, d2, d3] }
  | _ => none }
def maskMasksRow : OpenClaim := { program := "ytijeabhfddaoaaa", sum := "9c79fbdbf6532949ad07478a1b8c8906d40a264b0b93518646d68b9b2f3e3be9", func := "sherd/sherdlaw14.MaskMasks", spec := "maskMasks", unfollowed := true, recurses := true, apart := false }
def MaskMasksSaid : Prop := maskMasksRow.holds Try.pinned (OpenSpec.ofChange maskMasksSpec)

/-- ITS FALSE NEIGHBOUR: 'it returns false'. Refute it at one input. -/
def maskMasksWrong : ChangeSpec := { name := "maskMasks", fn := fun _ => fun
  | [d1, d2, d3] => { results := [.lit (.bool false)], args := [d1, d2, d3] }
  | _ => none }
def MaskMasksWrongFalsely : Prop := maskMasksRow.holds Try.pinned (OpenSpec.ofChange maskMasksWrong)

/-- 'sherdlaw11.RebuildBlobs': WHATEVER THE INPUT: true; the input reads as it did. -/
def rebuildBlobsSpec : ChangeSpec := { name := "rebuildBlobs", fn := fun _ => fun
  | [d1, d2] => { results := [.lit (.bool true)], args := [d1, d2] }
  | _ => none }
def rebuildBlobsRow : OpenClaim := { program := "ytijeabhfddaoaaa", sum := "9c79fbdbf6532949ad07478a1b8c8906d40a264b0b93518646d68b9b2f3e3be9", func := "sherd/sherdlaw11.RebuildBlobs", spec := "rebuildBlobs", unfollowed := true, recurses := true, apart := false }
def RebuildBlobsSaid : Prop := rebuildBlobsRow.holds Try.pinned (OpenSpec.ofChange rebuildBlobsSpec)

/-- ITS FALSE NEIGHBOUR: 'it returns false'. Refute it at one input. -/
def rebuildBlobsWrong : ChangeSpec := { name := "rebuildBlobs", fn := fun _ => fun
  | [d1, d2] => { results := [.lit (.bool false)], args := [d1, d2] }
  | _ => none }
def RebuildBlobsWrongFalsely : Prop := rebuildBlobsRow.holds Try.pinned (OpenSpec.ofChange rebuildBlobsWrong)

/-- 'sherdlaw14.MaskHides': WHATEVER THE INPUT: true; the input reads as it did. -/
def maskHidesSpec : ChangeSpec := { name := "maskHides", fn := fun _ => fun
  | [d1, d2, d3] => { results := [.lit (.bool true)], args := [d1, d2, d3] }
  | _ => none }
def maskHidesRow : OpenClaim := { program := "ytijeabhfddaoaaa", sum := "9c79fbdbf6532949ad07478a1b8c8906d40a264b0b93518646d68b9b2f3e3be9", func := "sherd/sherdlaw14.MaskHides", spec := "maskHides", unfollowed := true, recurses := true, apart := false }
def MaskHidesSaid : Prop := maskHidesRow.holds Try.pinned (OpenSpec.ofChange maskHidesSpec)

/-- ITS FALSE NEIGHBOUR: 'it returns false'. Refute it at one input. -/
def maskHidesWrong : ChangeSpec := { name := "maskHides", fn := fun _ => fun
  | [d1, d2, d3] => { results := [.lit (.bool false)], args := [d1, d2, d3] }
  | _ => none }
def MaskHidesWrongFalsely : Prop := maskHidesRow.holds Try.pinned (OpenSpec.ofChange maskHidesWrong)

/-- 'sherdlaw14.MaskMoves': WHATEVER THE INPUT: true; the input reads as it did. -/
def maskMovesSpec : ChangeSpec := { name := "maskMoves", fn := fun _ => fun
  | [d1, d2, d3] => { results := [.lit (.bool true)], args := [d1, d2, d3] }
  | _ => none }
def maskMovesRow : OpenClaim := { program := "ytijeabhfddaoaaa", sum := "9c79fbdbf6532949ad07478a1b8c8906d40a264b0b93518646d68b9b2f3e3be9", func := "sherd/sherdlaw14.MaskMoves", spec := "maskMoves", unfollowed := true, recurses := true, apart := false }
def MaskMovesSaid : Prop := maskMovesRow.holds Try.pinned (OpenSpec.ofChange maskMovesSpec)

/-- ITS FALSE NEIGHBOUR: 'it returns false'. Refute it at one input. -/
def maskMovesWrong : ChangeSpec := { name := "maskMoves", fn := fun _ => fun
  | [d1, d2, d3] => { results := [.lit (.bool false)], args := [d1, d2, d3] }
  | _ => none }
def MaskMovesWrongFalsely : Prop := maskMovesRow.holds Try.pinned (OpenSpec.ofChange maskMovesWrong)

/-- 'sherdlaw12.ZeroKeeps': WHATEVER THE INPUT: true; the input reads as it did. -/
def zeroKeepsSpec : ChangeSpec := { name := "zeroKeeps", fn := fun _ => fun
  | [d1, d2, d3] => { results := [.lit (.bool true)], args := [d1, d2, d3] }
  | _ => none }
def zeroKeepsRow : OpenClaim := { program := "ytijeabhfddaoaaa", sum := "9c79fbdbf6532949ad07478a1b8c8906d40a264b0b93518646d68b9b2f3e3be9", func := "sherd/sherdlaw12.ZeroKeeps", spec := "zeroKeeps", unfollowed := true, recurses := true, apart := false }
def ZeroKeepsSaid : Prop := zeroKeepsRow.holds Try.pinned (OpenSpec.ofChange zeroKeepsSpec)

/-- ITS FALSE NEIGHBOUR: 'it returns false'. Refute it at one input. -/
def zeroKeepsWrong : ChangeSpec := { name := "zeroKeeps", fn := fun _ => fun
  | [d1, d2, d3] => { results := [.lit (.bool false)], args := [d1, d2, d3] }
  | _ => none }
def ZeroKeepsWrongFalsely : Prop := zeroKeepsRow.holds Try.pinned (OpenSpec.ofChange zeroKeepsWrong)

/-- 'sherdlaw11.RebuildBack': WHATEVER THE INPUT: true; the input reads as it did. -/
def rebuildBackSpec : ChangeSpec := { name := "rebuildBack", fn := fun _ => fun
  | [d1, d2, d3] => { results := [.lit (.bool true)], args := [d1, d2, d3] }
  | _ => none }
def rebuildBackRow : OpenClaim := { program := "ytijeabhfddaoaaa", sum := "9c79fbdbf6532949ad07478a1b8c8906d40a264b0b93518646d68b9b2f3e3be9", func := "sherd/sherdlaw11.RebuildBack", spec := "rebuildBack", unfollowed := true, recurses := true, apart := false }
def RebuildBackSaid : Prop := rebuildBackRow.holds Try.pinned (OpenSpec.ofChange rebuildBackSpec)

/-- ITS FALSE NEIGHBOUR: 'it returns false'. Refute it at one input. -/
def rebuildBackWrong : ChangeSpec := { name := "rebuildBack", fn := fun _ => fun
  | [d1, d2, d3] => { results := [.lit (.bool false)], args := [d1, d2, d3] }
  | _ => none }
def RebuildBackWrongFalsely : Prop := rebuildBackRow.holds Try.pinned (OpenSpec.ofChange rebuildBackWrong)

/-- 'sherdlaw11.RebuildTells': WHATEVER THE INPUT: true; the input reads as it did. -/
def rebuildTellsSpec : ChangeSpec := { name := "rebuildTells", fn := fun _ => fun
  | [d1, d2, d3] => { results := [.lit (.bool true)], args := [d1, d2, d3] }
  | _ => none }
def rebuildTellsRow : OpenClaim := { program := "ytijeabhfddaoaaa", sum := "9c79fbdbf6532949ad07478a1b8c8906d40a264b0b93518646d68b9b2f3e3be9", func := "sherd/sherdlaw11.RebuildTells", spec := "rebuildTells", unfollowed := true, recurses := true, apart := false }
def RebuildTellsSaid : Prop := rebuildTellsRow.holds Try.pinned (OpenSpec.ofChange rebuildTellsSpec)

/-- ITS FALSE NEIGHBOUR: 'it returns false'. Refute it at one input. -/
def rebuildTellsWrong : ChangeSpec := { name := "rebuildTells", fn := fun _ => fun
  | [d1, d2, d3] => { results := [.lit (.bool false)], args := [d1, d2, d3] }
  | _ => none }
def RebuildTellsWrongFalsely : Prop := rebuildTellsRow.holds Try.pinned (OpenSpec.ofChange rebuildTellsWrong)

/- THE SECOND FORM. 'bulk': how many values and letters a reading holds, each counted each time it is reached (what is shared counts as often as it is met; a slice's spare places count too). A statement '..UptoSaid' is the law's where the arguments, and the package variables that the reading takes, are together of bulk at most 1048576: NARROWER than '..Said'. Prove '..Said' where nothing that the law and all that it calls make is longer than what came in: it says more and counts as full. Else prove '..UptoSaid'. A law counts once. -/
mutual
def uptoBulk {H : Type} : DataW H → Nat
  | .lit (.string bytes) => bytes.length + 1
  | .lit _ => 1
  | .nil => 1
  | .ptr d => uptoBulk d + 1
  | .slice elems spare => uptoBulkAll elems + uptoBulkAll spare + 1
  | .agg parts => uptoBulkAll parts + 1
  | .iface _ d => uptoBulk d + 1
  | .map entries => uptoBulkEntries entries + 1
  | .held _ => 1
def uptoBulkAll {H : Type} : List (DataW H) → Nat
  | [] => 0
  | d :: r => uptoBulk d + uptoBulkAll r
def uptoBulkEntries {H : Type} : List (Lit × DataW H) → Nat
  | [] => 0
  | x :: r => uptoBulkEntry x + uptoBulkEntries r
def uptoBulkEntry {H : Type} : Lit × DataW H → Nat
  | (.string bytes, d) => bytes.length + uptoBulk d + 1
  | (_, d) => uptoBulk d + 1
 end
def uptoSmall : (H : Type) → List (DataW H) → Bool := fun _ ds => decide (uptoBulkAll ds ≤ 1048576)
def OpenSpec.upto (s : _root_.Go.ChangeSpec) : _root_.Go.OpenSpec := { _root_.Go.OpenSpec.ofChange s with cond := some uptoSmall }

/-- 'sherdlaw01.GfMuls', WHERE WHAT IT READS IS OF BULK AT MOST 1048576: true; the input reads as it did. -/
def gfMulsUptoRow : OpenClaim := { program := "ytijeabhfddaoaaa", sum := "9c79fbdbf6532949ad07478a1b8c8906d40a264b0b93518646d68b9b2f3e3be9", func := "sherd/sherdlaw01.GfMuls", spec := "gfMuls", apart := false, narrowed := true }
def GfMulsUptoSaid : Prop := gfMulsUptoRow.holds Try.pinned (OpenSpec.upto gfMulsSpec)

/-- 'sherdlaw01.GfField', WHERE WHAT IT READS IS OF BULK AT MOST 1048576: true; the input reads as it did. -/
def gfFieldUptoRow : OpenClaim := { program := "ytijeabhfddaoaaa", sum := "9c79fbdbf6532949ad07478a1b8c8906d40a264b0b93518646d68b9b2f3e3be9", func := "sherd/sherdlaw01.GfField", spec := "gfField", apart := false, narrowed := true }
def GfFieldUptoSaid : Prop := gfFieldUptoRow.holds Try.pinned (OpenSpec.upto gfFieldSpec)

/-- 'sherdlaw01.GfPowers', WHERE WHAT IT READS IS OF BULK AT MOST 1048576: true; the input reads as it did. -/
def gfPowersUptoRow : OpenClaim := { program := "ytijeabhfddaoaaa", sum := "9c79fbdbf6532949ad07478a1b8c8906d40a264b0b93518646d68b9b2f3e3be9", func := "sherd/sherdlaw01.GfPowers", spec := "gfPowers", recurses := true, apart := false, narrowed := true }
def GfPowersUptoSaid : Prop := gfPowersUptoRow.holds Try.pinned (OpenSpec.upto gfPowersSpec)

/-- 'sherdlaw08.PlanMeets', WHERE WHAT IT READS IS OF BULK AT MOST 1048576: true; the input reads as it did. -/
def planMeetsUptoRow : OpenClaim := { program := "ytijeabhfddaoaaa", sum := "9c79fbdbf6532949ad07478a1b8c8906d40a264b0b93518646d68b9b2f3e3be9", func := "sherd/sherdlaw08.PlanMeets", spec := "planMeets", unfollowed := true, recurses := true, apart := false, narrowed := true }
def PlanMeetsUptoSaid : Prop := planMeetsUptoRow.holds Try.pinned (OpenSpec.upto planMeetsSpec)

/-- 'sherdlaw01.GfDots', WHERE WHAT IT READS IS OF BULK AT MOST 1048576: true; the input reads as it did. -/
def gfDotsUptoRow : OpenClaim := { program := "ytijeabhfddaoaaa", sum := "9c79fbdbf6532949ad07478a1b8c8906d40a264b0b93518646d68b9b2f3e3be9", func := "sherd/sherdlaw01.GfDots", spec := "gfDots", unfollowed := true, recurses := true, apart := false, narrowed := true }
def GfDotsUptoSaid : Prop := gfDotsUptoRow.holds Try.pinned (OpenSpec.upto gfDotsSpec)

/-- 'sherdlaw08.PlanPoints', WHERE WHAT IT READS IS OF BULK AT MOST 1048576: true; the input reads as it did. -/
def planPointsUptoRow : OpenClaim := { program := "ytijeabhfddaoaaa", sum := "9c79fbdbf6532949ad07478a1b8c8906d40a264b0b93518646d68b9b2f3e3be9", func := "sherd/sherdlaw08.PlanPoints", spec := "planPoints", unfollowed := true, recurses := true, apart := false, narrowed := true }
def PlanPointsUptoSaid : Prop := planPointsUptoRow.holds Try.pinned (OpenSpec.upto planPointsSpec)

/-- 'sherdlaw08.PlanRights', WHERE WHAT IT READS IS OF BULK AT MOST 1048576: true; the input reads as it did. -/
def planRightsUptoRow : OpenClaim := { program := "ytijeabhfddaoaaa", sum := "9c79fbdbf6532949ad07478a1b8c8906d40a264b0b93518646d68b9b2f3e3be9", func := "sherd/sherdlaw08.PlanRights", spec := "planRights", unfollowed := true, recurses := true, apart := false, narrowed := true }
def PlanRightsUptoSaid : Prop := planRightsUptoRow.holds Try.pinned (OpenSpec.upto planRightsSpec)

/-- 'sherdlaw02.PolyMuls', WHERE WHAT IT READS IS OF BULK AT MOST 1048576: true; the input reads as it did. -/
def polyMulsUptoRow : OpenClaim := { program := "ytijeabhfddaoaaa", sum := "9c79fbdbf6532949ad07478a1b8c8906d40a264b0b93518646d68b9b2f3e3be9", func := "sherd/sherdlaw02.PolyMuls", spec := "polyMuls", apart := false, narrowed := true }
def PolyMulsUptoSaid : Prop := polyMulsUptoRow.holds Try.pinned (OpenSpec.upto polyMulsSpec)

/-- 'sherdlaw02.PolyOvers', WHERE WHAT IT READS IS OF BULK AT MOST 1048576: true; the input reads as it did. -/
def polyOversUptoRow : OpenClaim := { program := "ytijeabhfddaoaaa", sum := "9c79fbdbf6532949ad07478a1b8c8906d40a264b0b93518646d68b9b2f3e3be9", func := "sherd/sherdlaw02.PolyOvers", spec := "polyOvers", apart := false, narrowed := true }
def PolyOversUptoSaid : Prop := polyOversUptoRow.holds Try.pinned (OpenSpec.upto polyOversSpec)

/-- 'sherdlaw02.PolyRoots', WHERE WHAT IT READS IS OF BULK AT MOST 1048576: true; the input reads as it did. -/
def polyRootsUptoRow : OpenClaim := { program := "ytijeabhfddaoaaa", sum := "9c79fbdbf6532949ad07478a1b8c8906d40a264b0b93518646d68b9b2f3e3be9", func := "sherd/sherdlaw02.PolyRoots", spec := "polyRoots", apart := false, narrowed := true }
def PolyRootsUptoSaid : Prop := polyRootsUptoRow.holds Try.pinned (OpenSpec.upto polyRootsSpec)

/-- 'sherdlaw02.PolyEvals', WHERE WHAT IT READS IS OF BULK AT MOST 1048576: true; the input reads as it did. -/
def polyEvalsUptoRow : OpenClaim := { program := "ytijeabhfddaoaaa", sum := "9c79fbdbf6532949ad07478a1b8c8906d40a264b0b93518646d68b9b2f3e3be9", func := "sherd/sherdlaw02.PolyEvals", spec := "polyEvals", apart := false, narrowed := true }
def PolyEvalsUptoSaid : Prop := polyEvalsUptoRow.holds Try.pinned (OpenSpec.upto polyEvalsSpec)

/-- 'sherdlaw09.StripeCuts', WHERE WHAT IT READS IS OF BULK AT MOST 1048576: true; the input reads as it did. -/
def stripeCutsUptoRow : OpenClaim := { program := "ytijeabhfddaoaaa", sum := "9c79fbdbf6532949ad07478a1b8c8906d40a264b0b93518646d68b9b2f3e3be9", func := "sherd/sherdlaw09.StripeCuts", spec := "stripeCuts", unfollowed := true, recurses := true, apart := false, narrowed := true }
def StripeCutsUptoSaid : Prop := stripeCutsUptoRow.holds Try.pinned (OpenSpec.upto stripeCutsSpec)

/-- 'sherdlaw09.StripeJoins', WHERE WHAT IT READS IS OF BULK AT MOST 1048576: true; the input reads as it did. -/
def stripeJoinsUptoRow : OpenClaim := { program := "ytijeabhfddaoaaa", sum := "9c79fbdbf6532949ad07478a1b8c8906d40a264b0b93518646d68b9b2f3e3be9", func := "sherd/sherdlaw09.StripeJoins", spec := "stripeJoins", unfollowed := true, recurses := true, apart := false, narrowed := true }
def StripeJoinsUptoSaid : Prop := stripeJoinsUptoRow.holds Try.pinned (OpenSpec.upto stripeJoinsSpec)

/-- 'sherdlaw13.BlindShares', WHERE WHAT IT READS IS OF BULK AT MOST 1048576: true; the input reads as it did. -/
def blindSharesUptoRow : OpenClaim := { program := "ytijeabhfddaoaaa", sum := "9c79fbdbf6532949ad07478a1b8c8906d40a264b0b93518646d68b9b2f3e3be9", func := "sherd/sherdlaw13.BlindShares", spec := "blindShares", unfollowed := true, recurses := true, apart := false, narrowed := true }
def BlindSharesUptoSaid : Prop := blindSharesUptoRow.holds Try.pinned (OpenSpec.upto blindSharesSpec)

/-- 'sherdlaw04.MatrixInverts', WHERE WHAT IT READS IS OF BULK AT MOST 1048576: true; the input reads as it did. -/
def matrixInvertsUptoRow : OpenClaim := { program := "ytijeabhfddaoaaa", sum := "9c79fbdbf6532949ad07478a1b8c8906d40a264b0b93518646d68b9b2f3e3be9", func := "sherd/sherdlaw04.MatrixInverts", spec := "matrixInverts", unfollowed := true, recurses := true, apart := false, narrowed := true }
def MatrixInvertsUptoSaid : Prop := matrixInvertsUptoRow.holds Try.pinned (OpenSpec.upto matrixInvertsSpec)

/-- 'sherdlaw03.LagrOnce', WHERE WHAT IT READS IS OF BULK AT MOST 1048576: true; the input reads as it did. -/
def lagrOnceUptoRow : OpenClaim := { program := "ytijeabhfddaoaaa", sum := "9c79fbdbf6532949ad07478a1b8c8906d40a264b0b93518646d68b9b2f3e3be9", func := "sherd/sherdlaw03.LagrOnce", spec := "lagrOnce", unfollowed := true, recurses := true, apart := false, narrowed := true }
def LagrOnceUptoSaid : Prop := lagrOnceUptoRow.holds Try.pinned (OpenSpec.upto lagrOnceSpec)

/-- 'sherdlaw03.LagrWeights', WHERE WHAT IT READS IS OF BULK AT MOST 1048576: true; the input reads as it did. -/
def lagrWeightsUptoRow : OpenClaim := { program := "ytijeabhfddaoaaa", sum := "9c79fbdbf6532949ad07478a1b8c8906d40a264b0b93518646d68b9b2f3e3be9", func := "sherd/sherdlaw03.LagrWeights", spec := "lagrWeights", unfollowed := true, recurses := true, apart := false, narrowed := true }
def LagrWeightsUptoSaid : Prop := lagrWeightsUptoRow.holds Try.pinned (OpenSpec.upto lagrWeightsSpec)

/-- 'sherdlaw12.ZeroShares', WHERE WHAT IT READS IS OF BULK AT MOST 1048576: true; the input reads as it did. -/
def zeroSharesUptoRow : OpenClaim := { program := "ytijeabhfddaoaaa", sum := "9c79fbdbf6532949ad07478a1b8c8906d40a264b0b93518646d68b9b2f3e3be9", func := "sherd/sherdlaw12.ZeroShares", spec := "zeroShares", unfollowed := true, recurses := true, apart := false, narrowed := true }
def ZeroSharesUptoSaid : Prop := zeroSharesUptoRow.holds Try.pinned (OpenSpec.upto zeroSharesSpec)

/-- 'sherdlaw12.ZeroAdds', WHERE WHAT IT READS IS OF BULK AT MOST 1048576: true; the input reads as it did. -/
def zeroAddsUptoRow : OpenClaim := { program := "ytijeabhfddaoaaa", sum := "9c79fbdbf6532949ad07478a1b8c8906d40a264b0b93518646d68b9b2f3e3be9", func := "sherd/sherdlaw12.ZeroAdds", spec := "zeroAdds", unfollowed := true, recurses := true, apart := false, narrowed := true }
def ZeroAddsUptoSaid : Prop := zeroAddsUptoRow.holds Try.pinned (OpenSpec.upto zeroAddsSpec)

/-- 'sherdlaw03.LagrThroughs', WHERE WHAT IT READS IS OF BULK AT MOST 1048576: true; the input reads as it did. -/
def lagrThroughsUptoRow : OpenClaim := { program := "ytijeabhfddaoaaa", sum := "9c79fbdbf6532949ad07478a1b8c8906d40a264b0b93518646d68b9b2f3e3be9", func := "sherd/sherdlaw03.LagrThroughs", spec := "lagrThroughs", unfollowed := true, recurses := true, apart := false, narrowed := true }
def LagrThroughsUptoSaid : Prop := lagrThroughsUptoRow.holds Try.pinned (OpenSpec.upto lagrThroughsSpec)

/-- 'sherdlaw04.MatrixMuls', WHERE WHAT IT READS IS OF BULK AT MOST 1048576: true; the input reads as it did. -/
def matrixMulsUptoRow : OpenClaim := { program := "ytijeabhfddaoaaa", sum := "9c79fbdbf6532949ad07478a1b8c8906d40a264b0b93518646d68b9b2f3e3be9", func := "sherd/sherdlaw04.MatrixMuls", spec := "matrixMuls", unfollowed := true, recurses := true, apart := false, narrowed := true }
def MatrixMulsUptoSaid : Prop := matrixMulsUptoRow.holds Try.pinned (OpenSpec.upto matrixMulsSpec)

/-- 'sherdlaw10.DealSums', WHERE WHAT IT READS IS OF BULK AT MOST 1048576: true; the input reads as it did. -/
def dealSumsUptoRow : OpenClaim := { program := "ytijeabhfddaoaaa", sum := "9c79fbdbf6532949ad07478a1b8c8906d40a264b0b93518646d68b9b2f3e3be9", func := "sherd/sherdlaw10.DealSums", spec := "dealSums", unfollowed := true, recurses := true, apart := false, narrowed := true }
def DealSumsUptoSaid : Prop := dealSumsUptoRow.holds Try.pinned (OpenSpec.upto dealSumsSpec)

/-- 'sherdlaw13.BlindFinds', WHERE WHAT IT READS IS OF BULK AT MOST 1048576: true; the input reads as it did. -/
def blindFindsUptoRow : OpenClaim := { program := "ytijeabhfddaoaaa", sum := "9c79fbdbf6532949ad07478a1b8c8906d40a264b0b93518646d68b9b2f3e3be9", func := "sherd/sherdlaw13.BlindFinds", spec := "blindFinds", unfollowed := true, recurses := true, apart := false, narrowed := true }
def BlindFindsUptoSaid : Prop := blindFindsUptoRow.holds Try.pinned (OpenSpec.upto blindFindsSpec)

/-- 'sherdlaw10.DealShares', WHERE WHAT IT READS IS OF BULK AT MOST 1048576: true; the input reads as it did. -/
def dealSharesUptoRow : OpenClaim := { program := "ytijeabhfddaoaaa", sum := "9c79fbdbf6532949ad07478a1b8c8906d40a264b0b93518646d68b9b2f3e3be9", func := "sherd/sherdlaw10.DealShares", spec := "dealShares", unfollowed := true, recurses := true, apart := false, narrowed := true }
def DealSharesUptoSaid : Prop := dealSharesUptoRow.holds Try.pinned (OpenSpec.upto dealSharesSpec)

/-- 'sherdlaw04.MatrixPowers', WHERE WHAT IT READS IS OF BULK AT MOST 1048576: true; the input reads as it did. -/
def matrixPowersUptoRow : OpenClaim := { program := "ytijeabhfddaoaaa", sum := "9c79fbdbf6532949ad07478a1b8c8906d40a264b0b93518646d68b9b2f3e3be9", func := "sherd/sherdlaw04.MatrixPowers", spec := "matrixPowers", unfollowed := true, recurses := true, apart := false, narrowed := true }
def MatrixPowersUptoSaid : Prop := matrixPowersUptoRow.holds Try.pinned (OpenSpec.upto matrixPowersSpec)

/-- 'sherdlaw13.BlindBack', WHERE WHAT IT READS IS OF BULK AT MOST 1048576: true; the input reads as it did. -/
def blindBackUptoRow : OpenClaim := { program := "ytijeabhfddaoaaa", sum := "9c79fbdbf6532949ad07478a1b8c8906d40a264b0b93518646d68b9b2f3e3be9", func := "sherd/sherdlaw13.BlindBack", spec := "blindBack", unfollowed := true, recurses := true, apart := false, narrowed := true }
def BlindBackUptoSaid : Prop := blindBackUptoRow.holds Try.pinned (OpenSpec.upto blindBackSpec)

/-- 'sherdlaw14.MaskShifts', WHERE WHAT IT READS IS OF BULK AT MOST 1048576: true; the input reads as it did. -/
def maskShiftsUptoRow : OpenClaim := { program := "ytijeabhfddaoaaa", sum := "9c79fbdbf6532949ad07478a1b8c8906d40a264b0b93518646d68b9b2f3e3be9", func := "sherd/sherdlaw14.MaskShifts", spec := "maskShifts", unfollowed := true, recurses := true, apart := false, narrowed := true }
def MaskShiftsUptoSaid : Prop := maskShiftsUptoRow.holds Try.pinned (OpenSpec.upto maskShiftsSpec)

/-- 'sherdlaw14.MaskTurns', WHERE WHAT IT READS IS OF BULK AT MOST 1048576: true; the input reads as it did. -/
def maskTurnsUptoRow : OpenClaim := { program := "ytijeabhfddaoaaa", sum := "9c79fbdbf6532949ad07478a1b8c8906d40a264b0b93518646d68b9b2f3e3be9", func := "sherd/sherdlaw14.MaskTurns", spec := "maskTurns", unfollowed := true, recurses := true, apart := false, narrowed := true }
def MaskTurnsUptoSaid : Prop := maskTurnsUptoRow.holds Try.pinned (OpenSpec.upto maskTurnsSpec)

/-- 'sherdlaw14.MaskMasks', WHERE WHAT IT READS IS OF BULK AT MOST 1048576: true; the input reads as it did. -/
def maskMasksUptoRow : OpenClaim := { program := "ytijeabhfddaoaaa", sum := "9c79fbdbf6532949ad07478a1b8c8906d40a264b0b93518646d68b9b2f3e3be9", func := "sherd/sherdlaw14.MaskMasks", spec := "maskMasks", unfollowed := true, recurses := true, apart := false, narrowed := true }
def MaskMasksUptoSaid : Prop := maskMasksUptoRow.holds Try.pinned (OpenSpec.upto maskMasksSpec)

/-- 'sherdlaw11.RebuildBlobs', WHERE WHAT IT READS IS OF BULK AT MOST 1048576: true; the input reads as it did. -/
def rebuildBlobsUptoRow : OpenClaim := { program := "ytijeabhfddaoaaa", sum := "9c79fbdbf6532949ad07478a1b8c8906d40a264b0b93518646d68b9b2f3e3be9", func := "sherd/sherdlaw11.RebuildBlobs", spec := "rebuildBlobs", unfollowed := true, recurses := true, apart := false, narrowed := true }
def RebuildBlobsUptoSaid : Prop := rebuildBlobsUptoRow.holds Try.pinned (OpenSpec.upto rebuildBlobsSpec)

/-- 'sherdlaw14.MaskHides', WHERE WHAT IT READS IS OF BULK AT MOST 1048576: true; the input reads as it did. -/
def maskHidesUptoRow : OpenClaim := { program := "ytijeabhfddaoaaa", sum := "9c79fbdbf6532949ad07478a1b8c8906d40a264b0b93518646d68b9b2f3e3be9", func := "sherd/sherdlaw14.MaskHides", spec := "maskHides", unfollowed := true, recurses := true, apart := false, narrowed := true }
def MaskHidesUptoSaid : Prop := maskHidesUptoRow.holds Try.pinned (OpenSpec.upto maskHidesSpec)

/-- 'sherdlaw14.MaskMoves', WHERE WHAT IT READS IS OF BULK AT MOST 1048576: true; the input reads as it did. -/
def maskMovesUptoRow : OpenClaim := { program := "ytijeabhfddaoaaa", sum := "9c79fbdbf6532949ad07478a1b8c8906d40a264b0b93518646d68b9b2f3e3be9", func := "sherd/sherdlaw14.MaskMoves", spec := "maskMoves", unfollowed := true, recurses := true, apart := false, narrowed := true }
def MaskMovesUptoSaid : Prop := maskMovesUptoRow.holds Try.pinned (OpenSpec.upto maskMovesSpec)

/-- 'sherdlaw12.ZeroKeeps', WHERE WHAT IT READS IS OF BULK AT MOST 1048576: true; the input reads as it did. -/
def zeroKeepsUptoRow : OpenClaim := { program := "ytijeabhfddaoaaa", sum := "9c79fbdbf6532949ad07478a1b8c8906d40a264b0b93518646d68b9b2f3e3be9", func := "sherd/sherdlaw12.ZeroKeeps", spec := "zeroKeeps", unfollowed := true, recurses := true, apart := false, narrowed := true }
def ZeroKeepsUptoSaid : Prop := zeroKeepsUptoRow.holds Try.pinned (OpenSpec.upto zeroKeepsSpec)

/-- 'sherdlaw11.RebuildBack', WHERE WHAT IT READS IS OF BULK AT MOST 1048576: true; the input reads as it did. -/
def rebuildBackUptoRow : OpenClaim := { program := "ytijeabhfddaoaaa", sum := "9c79fbdbf6532949ad07478a1b8c8906d40a264b0b93518646d68b9b2f3e3be9", func := "sherd/sherdlaw11.RebuildBack", spec := "rebuildBack", unfollowed := true, recurses := true, apart := false, narrowed := true }
def RebuildBackUptoSaid : Prop := rebuildBackUptoRow.holds Try.pinned (OpenSpec.upto rebuildBackSpec)

/-- 'sherdlaw11.RebuildTells', WHERE WHAT IT READS IS OF BULK AT MOST 1048576: true; the input reads as it did. -/
def rebuildTellsUptoRow : OpenClaim := { program := "ytijeabhfddaoaaa", sum := "9c79fbdbf6532949ad07478a1b8c8906d40a264b0b93518646d68b9b2f3e3be9", func := "sherd/sherdlaw11.RebuildTells", spec := "rebuildTells", unfollowed := true, recurses := true, apart := false, narrowed := true }
def RebuildTellsUptoSaid : Prop := rebuildTellsUptoRow.holds Try.pinned (OpenSpec.upto rebuildTellsSpec)

end Rows
end Go.Proofs.Ytijeabhfddaoaaa
