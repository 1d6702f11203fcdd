/-
  No cell of these rows narrows 'for every input' (looked for: loops, veiled, ifaces, maps, wideKeys, modest, calm, conditions, laid).
  DERIVED. THE GIVEN ROWS OF THIS SEAT. 8 by the template 'for every input the law returns true; each argument reads behind the call as it read before'; 0 by the template 'total and deterministic' (their statements: YtacbenjfiabegaaTotals.lean).
  GIVEN WITH THE SEED: the statements are not yours to turn. If you find one false, say at which input.
  Laid BY PROGRAM, IN A SANDBOX (cutbox-rows.mjs): the forced cells as the released guide's own fill.sh prints them over the translation 449f114cf8f8740c… (all of the seat's roots in one cut). By AI agents, Wed Nov 11 2026. No macro, syntax, notation, axiom, sorry.
-/
import Derived.Test.YtacbenjfiabegaaChecked
import GoSem.Claim
import GoSem.ClaimJoined
import GoSem.ClaimMapViews
import Derived.JoinedTies
import Derived.KernelRfl
namespace Go.Proofs.Ytacbenjfiabegaa
/- THE CELL 'sum', in the pinned program and in every row, IS THE sha256 OF THE DUMP (.gsa) THAT YtacbenjfiabegaaProg.lean LOADS. Nothing in Lean hashes anything: it is a label: what it is worth is what the hold of that sum in a sandbox is worth. -/
noncomputable def Try.pinned : Pinned := { name := "ytacbenjfiabegaa", sum := "449f114cf8f8740ce61cde31bbaa5ea405e171d0ddfcebdf4595fb5eb92df620", checked := Try.checked }
namespace Rows
def none {H : Type} : Left H := { results := [], args := [] }

/-- 'sherdlaw29.FixTwice': WHATEVER THE INPUT: true; the input reads as it did. -/
def fixTwiceSpec : ChangeSpec := { name := "fixTwice", fn := fun _ => fun
  | [d1, d2, d3] => { results := [.lit (.bool true)], args := [d1, d2, d3] }
  | _ => none }
def fixTwiceRow : OpenClaim := { program := "ytacbenjfiabegaa", sum := "449f114cf8f8740ce61cde31bbaa5ea405e171d0ddfcebdf4595fb5eb92df620", func := "sherd/sherdlaw29.FixTwice", spec := "fixTwice", unfollowed := true, recurses := true, apart := false }
def FixTwiceSaid : Prop := fixTwiceRow.holds Try.pinned (OpenSpec.ofChange fixTwiceSpec)

/-- ITS FALSE NEIGHBOUR: 'it returns false'. Refute it at one input. -/
def fixTwiceWrong : ChangeSpec := { name := "fixTwice", fn := fun _ => fun
  | [d1, d2, d3] => { results := [.lit (.bool false)], args := [d1, d2, d3] }
  | _ => none }
def FixTwiceWrongFalsely : Prop := fixTwiceRow.holds Try.pinned (OpenSpec.ofChange fixTwiceWrong)

/-- 'sherdlaw29.FixMains': WHATEVER THE INPUT: true; the input reads as it did. -/
def fixMainsSpec : ChangeSpec := { name := "fixMains", fn := fun _ => fun
  | [d1, d2, d3] => { results := [.lit (.bool true)], args := [d1, d2, d3] }
  | _ => none }
def fixMainsRow : OpenClaim := { program := "ytacbenjfiabegaa", sum := "449f114cf8f8740ce61cde31bbaa5ea405e171d0ddfcebdf4595fb5eb92df620", func := "sherd/sherdlaw29.FixMains", spec := "fixMains", unfollowed := true, recurses := true, apart := false }
def FixMainsSaid : Prop := fixMainsRow.holds Try.pinned (OpenSpec.ofChange fixMainsSpec)

/-- ITS FALSE NEIGHBOUR: 'it returns false'. Refute it at one input. -/
def fixMainsWrong : ChangeSpec := { name := "fixMains", fn := fun _ => fun
  | [d1, d2, d3] => { results := [.lit (.bool false)], args := [d1, d2, d3] }
  | _ => none }
def FixMainsWrongFalsely : Prop := fixMainsRow.holds Try.pinned (OpenSpec.ofChange fixMainsWrong)

/-- 'sherdlaw36.SettleMeets': WHATEVER THE INPUT: true; the input reads as it did. -/
def settleMeetsSpec : ChangeSpec := { name := "settleMeets", fn := fun _ => fun
  | [d1, d2, d3] => { results := [.lit (.bool true)], args := [d1, d2, d3] }
  | _ => none }
def settleMeetsRow : OpenClaim := { program := "ytacbenjfiabegaa", sum := "449f114cf8f8740ce61cde31bbaa5ea405e171d0ddfcebdf4595fb5eb92df620", func := "sherd/sherdlaw36.SettleMeets", spec := "settleMeets", unfollowed := true, recurses := true, apart := false }
def SettleMeetsSaid : Prop := settleMeetsRow.holds Try.pinned (OpenSpec.ofChange settleMeetsSpec)

/-- ITS FALSE NEIGHBOUR: 'it returns false'. Refute it at one input. -/
def settleMeetsWrong : ChangeSpec := { name := "settleMeets", fn := fun _ => fun
  | [d1, d2, d3] => { results := [.lit (.bool false)], args := [d1, d2, d3] }
  | _ => none }
def SettleMeetsWrongFalsely : Prop := settleMeetsRow.holds Try.pinned (OpenSpec.ofChange settleMeetsWrong)

/-- 'sherdlaw21.SpacePlays': WHATEVER THE INPUT: true; the input reads as it did. -/
def spacePlaysSpec : ChangeSpec := { name := "spacePlays", fn := fun _ => fun
  | [d1, d2, d3] => { results := [.lit (.bool true)], args := [d1, d2, d3] }
  | _ => none }
def spacePlaysRow : OpenClaim := { program := "ytacbenjfiabegaa", sum := "449f114cf8f8740ce61cde31bbaa5ea405e171d0ddfcebdf4595fb5eb92df620", func := "sherd/sherdlaw21.SpacePlays", spec := "spacePlays", unfollowed := true, recurses := true, apart := false }
def SpacePlaysSaid : Prop := spacePlaysRow.holds Try.pinned (OpenSpec.ofChange spacePlaysSpec)

/-- ITS FALSE NEIGHBOUR: 'it returns false'. Refute it at one input. -/
def spacePlaysWrong : ChangeSpec := { name := "spacePlays", fn := fun _ => fun
  | [d1, d2, d3] => { results := [.lit (.bool false)], args := [d1, d2, d3] }
  | _ => none }
def SpacePlaysWrongFalsely : Prop := spacePlaysRow.holds Try.pinned (OpenSpec.ofChange spacePlaysWrong)

/-- 'sherdlaw21.SpaceApart': WHATEVER THE INPUT: true; the input reads as it did. -/
def spaceApartSpec : ChangeSpec := { name := "spaceApart", fn := fun _ => fun
  | [d] => { results := [.lit (.bool true)], args := [d] }
  | _ => none }
def spaceApartRow : OpenClaim := { program := "ytacbenjfiabegaa", sum := "449f114cf8f8740ce61cde31bbaa5ea405e171d0ddfcebdf4595fb5eb92df620", func := "sherd/sherdlaw21.SpaceApart", spec := "spaceApart", unfollowed := true, recurses := true, apart := false }
def SpaceApartSaid : Prop := spaceApartRow.holds Try.pinned (OpenSpec.ofChange spaceApartSpec)

/-- ITS FALSE NEIGHBOUR: 'it returns false'. Refute it at one input. -/
def spaceApartWrong : ChangeSpec := { name := "spaceApart", fn := fun _ => fun
  | [d] => { results := [.lit (.bool false)], args := [d] }
  | _ => none }
def SpaceApartWrongFalsely : Prop := spaceApartRow.holds Try.pinned (OpenSpec.ofChange spaceApartWrong)

/-- 'sherdlaw21.SpaceOwn': WHATEVER THE INPUT: true; the input reads as it did. -/
def spaceOwnSpec : ChangeSpec := { name := "spaceOwn", fn := fun _ => fun
  | [d1, d2, d3] => { results := [.lit (.bool true)], args := [d1, d2, d3] }
  | _ => none }
def spaceOwnRow : OpenClaim := { program := "ytacbenjfiabegaa", sum := "449f114cf8f8740ce61cde31bbaa5ea405e171d0ddfcebdf4595fb5eb92df620", func := "sherd/sherdlaw21.SpaceOwn", spec := "spaceOwn", unfollowed := true, recurses := true, apart := false }
def SpaceOwnSaid : Prop := spaceOwnRow.holds Try.pinned (OpenSpec.ofChange spaceOwnSpec)

/-- ITS FALSE NEIGHBOUR: 'it returns false'. Refute it at one input. -/
def spaceOwnWrong : ChangeSpec := { name := "spaceOwn", fn := fun _ => fun
  | [d1, d2, d3] => { results := [.lit (.bool false)], args := [d1, d2, d3] }
  | _ => none }
def SpaceOwnWrongFalsely : Prop := spaceOwnRow.holds Try.pinned (OpenSpec.ofChange spaceOwnWrong)

/-- 'sherdlaw37.ChooseUnseen': WHATEVER THE INPUT: true; the input reads as it did. -/
def chooseUnseenSpec : ChangeSpec := { name := "chooseUnseen", fn := fun _ => fun
  | [d1, d2, d3] => { results := [.lit (.bool true)], args := [d1, d2, d3] }
  | _ => none }
def chooseUnseenRow : OpenClaim := { program := "ytacbenjfiabegaa", sum := "449f114cf8f8740ce61cde31bbaa5ea405e171d0ddfcebdf4595fb5eb92df620", func := "sherd/sherdlaw37.ChooseUnseen", spec := "chooseUnseen", unfollowed := true, recurses := true, apart := false }
def ChooseUnseenSaid : Prop := chooseUnseenRow.holds Try.pinned (OpenSpec.ofChange chooseUnseenSpec)

/-- ITS FALSE NEIGHBOUR: 'it returns false'. Refute it at one input. -/
def chooseUnseenWrong : ChangeSpec := { name := "chooseUnseen", fn := fun _ => fun
  | [d1, d2, d3] => { results := [.lit (.bool false)], args := [d1, d2, d3] }
  | _ => none }
def ChooseUnseenWrongFalsely : Prop := chooseUnseenRow.holds Try.pinned (OpenSpec.ofChange chooseUnseenWrong)

/-- 'sherdlaw37.ChoosePlays': WHATEVER THE INPUT: true; the input reads as it did. -/
def choosePlaysSpec : ChangeSpec := { name := "choosePlays", fn := fun _ => fun
  | [d1, d2, d3] => { results := [.lit (.bool true)], args := [d1, d2, d3] }
  | _ => none }
def choosePlaysRow : OpenClaim := { program := "ytacbenjfiabegaa", sum := "449f114cf8f8740ce61cde31bbaa5ea405e171d0ddfcebdf4595fb5eb92df620", func := "sherd/sherdlaw37.ChoosePlays", spec := "choosePlays", unfollowed := true, recurses := true, apart := false }
def ChoosePlaysSaid : Prop := choosePlaysRow.holds Try.pinned (OpenSpec.ofChange choosePlaysSpec)

/-- ITS FALSE NEIGHBOUR: 'it returns false'. Refute it at one input. -/
def choosePlaysWrong : ChangeSpec := { name := "choosePlays", fn := fun _ => fun
  | [d1, d2, d3] => { results := [.lit (.bool false)], args := [d1, d2, d3] }
  | _ => none }
def ChoosePlaysWrongFalsely : Prop := choosePlaysRow.holds Try.pinned (OpenSpec.ofChange choosePlaysWrong)

/- THE SECOND FORM. 'bulk': how many values and letters a reading holds, each counted each time it is reached (what is shared counts as often as it is met; a slice's spare places count too). A statement '..UptoSaid' is the law's where the arguments, and the package variables that the reading takes, are together of bulk at most 1048576: NARROWER than '..Said'. Prove '..Said' where nothing that the law and all that it calls make is longer than what came in: it says more and counts as full. Else prove '..UptoSaid'. A law counts once. -/
mutual
def uptoBulk {H : Type} : DataW H → Nat
  | .lit (.string bytes) => bytes.length + 1
  | .lit _ => 1
  | .nil => 1
  | .ptr d => uptoBulk d + 1
  | .slice elems spare => uptoBulkAll elems + uptoBulkAll spare + 1
  | .agg parts => uptoBulkAll parts + 1
  | .iface _ d => uptoBulk d + 1
  | .map entries => uptoBulkEntries entries + 1
  | .held _ => 1
def uptoBulkAll {H : Type} : List (DataW H) → Nat
  | [] => 0
  | d :: r => uptoBulk d + uptoBulkAll r
def uptoBulkEntries {H : Type} : List (Lit × DataW H) → Nat
  | [] => 0
  | x :: r => uptoBulkEntry x + uptoBulkEntries r
def uptoBulkEntry {H : Type} : Lit × DataW H → Nat
  | (.string bytes, d) => bytes.length + uptoBulk d + 1
  | (_, d) => uptoBulk d + 1
 end
def uptoSmall : (H : Type) → List (DataW H) → Bool := fun _ ds => decide (uptoBulkAll ds ≤ 1048576)
def OpenSpec.upto (s : _root_.Go.ChangeSpec) : _root_.Go.OpenSpec := { _root_.Go.OpenSpec.ofChange s with cond := some uptoSmall }

/-- 'sherdlaw29.FixTwice', WHERE WHAT IT READS IS OF BULK AT MOST 1048576: true; the input reads as it did. -/
def fixTwiceUptoRow : OpenClaim := { program := "ytacbenjfiabegaa", sum := "449f114cf8f8740ce61cde31bbaa5ea405e171d0ddfcebdf4595fb5eb92df620", func := "sherd/sherdlaw29.FixTwice", spec := "fixTwice", unfollowed := true, recurses := true, apart := false, narrowed := true }
def FixTwiceUptoSaid : Prop := fixTwiceUptoRow.holds Try.pinned (OpenSpec.upto fixTwiceSpec)

/-- 'sherdlaw29.FixMains', WHERE WHAT IT READS IS OF BULK AT MOST 1048576: true; the input reads as it did. -/
def fixMainsUptoRow : OpenClaim := { program := "ytacbenjfiabegaa", sum := "449f114cf8f8740ce61cde31bbaa5ea405e171d0ddfcebdf4595fb5eb92df620", func := "sherd/sherdlaw29.FixMains", spec := "fixMains", unfollowed := true, recurses := true, apart := false, narrowed := true }
def FixMainsUptoSaid : Prop := fixMainsUptoRow.holds Try.pinned (OpenSpec.upto fixMainsSpec)

/-- 'sherdlaw36.SettleMeets', WHERE WHAT IT READS IS OF BULK AT MOST 1048576: true; the input reads as it did. -/
def settleMeetsUptoRow : OpenClaim := { program := "ytacbenjfiabegaa", sum := "449f114cf8f8740ce61cde31bbaa5ea405e171d0ddfcebdf4595fb5eb92df620", func := "sherd/sherdlaw36.SettleMeets", spec := "settleMeets", unfollowed := true, recurses := true, apart := false, narrowed := true }
def SettleMeetsUptoSaid : Prop := settleMeetsUptoRow.holds Try.pinned (OpenSpec.upto settleMeetsSpec)

/-- 'sherdlaw21.SpacePlays', WHERE WHAT IT READS IS OF BULK AT MOST 1048576: true; the input reads as it did. -/
def spacePlaysUptoRow : OpenClaim := { program := "ytacbenjfiabegaa", sum := "449f114cf8f8740ce61cde31bbaa5ea405e171d0ddfcebdf4595fb5eb92df620", func := "sherd/sherdlaw21.SpacePlays", spec := "spacePlays", unfollowed := true, recurses := true, apart := false, narrowed := true }
def SpacePlaysUptoSaid : Prop := spacePlaysUptoRow.holds Try.pinned (OpenSpec.upto spacePlaysSpec)

/-- 'sherdlaw21.SpaceApart', WHERE WHAT IT READS IS OF BULK AT MOST 1048576: true; the input reads as it did. -/
def spaceApartUptoRow : OpenClaim := { program := "ytacbenjfiabegaa", sum := "449f114cf8f8740ce61cde31bbaa5ea405e171d0ddfcebdf4595fb5eb92df620", func := "sherd/sherdlaw21.SpaceApart", spec := "spaceApart", unfollowed := true, recurses := true, apart := false, narrowed := true }
def SpaceApartUptoSaid : Prop := spaceApartUptoRow.holds Try.pinned (OpenSpec.upto spaceApartSpec)

/-- 'sherdlaw21.SpaceOwn', WHERE WHAT IT READS IS OF BULK AT MOST 1048576: true; the input reads as it did. -/
def spaceOwnUptoRow : OpenClaim := { program := "ytacbenjfiabegaa", sum := "449f114cf8f8740ce61cde31bbaa5ea405e171d0ddfcebdf4595fb5eb92df620", func := "sherd/sherdlaw21.SpaceOwn", spec := "spaceOwn", unfollowed := true, recurses := true, apart := false, narrowed := true }
def SpaceOwnUptoSaid : Prop := spaceOwnUptoRow.holds Try.pinned (OpenSpec.upto spaceOwnSpec)

/-- 'sherdlaw37.ChooseUnseen', WHERE WHAT IT READS IS OF BULK AT MOST 1048576: true; the input reads as it did. -/
def chooseUnseenUptoRow : OpenClaim := { program := "ytacbenjfiabegaa", sum := "449f114cf8f8740ce61cde31bbaa5ea405e171d0ddfcebdf4595fb5eb92df620", func := "sherd/sherdlaw37.ChooseUnseen", spec := "chooseUnseen", unfollowed := true, recurses := true, apart := false, narrowed := true }
def ChooseUnseenUptoSaid : Prop := chooseUnseenUptoRow.holds Try.pinned (OpenSpec.upto chooseUnseenSpec)

/-- 'sherdlaw37.ChoosePlays', WHERE WHAT IT READS IS OF BULK AT MOST 1048576: true; the input reads as it did. -/
def choosePlaysUptoRow : OpenClaim := { program := "ytacbenjfiabegaa", sum := "449f114cf8f8740ce61cde31bbaa5ea405e171d0ddfcebdf4595fb5eb92df620", func := "sherd/sherdlaw37.ChoosePlays", spec := "choosePlays", unfollowed := true, recurses := true, apart := false, narrowed := true }
def ChoosePlaysUptoSaid : Prop := choosePlaysUptoRow.holds Try.pinned (OpenSpec.upto choosePlaysSpec)

end Rows
end Go.Proofs.Ytacbenjfiabegaa
