/- The head of the cut, sign by sign, and the three closed facts of every row that read it. -/
import Derived.Test.YtacbenjfiabegaaRows
import Derived.ProofKit
namespace Go.Proofs.Ytacbenjfiabegaa
open Go
set_option maxRecDepth 100000
def headSigns : List Nat := [104, 97, 114, 110, 101, 115, 115, 32, 51, 97, 56, 97, 102, 99, 54, 99, 48, 51, 99, 52, 56, 51, 51, 54, 97, 57, 102, 54, 99, 97, 100, 57, 101, 52, 52, 48, 52, 98, 52, 102, 98, 99, 52, 97, 57, 55, 99, 51, 102, 55, 54, 50, 53, 54, 54, 97, 100, 97, 56, 56] ++
  [53, 50, 50, 98, 55, 97, 97, 48, 53, 102, 48, 55, 32, 99, 117, 116, 32, 97, 116, 32, 115, 104, 101, 114, 100, 47, 115, 104, 101, 114, 100, 108, 97, 119, 50, 57, 46, 70, 105, 120, 84, 119, 105, 99, 101, 32, 115, 104, 101, 114, 100, 47, 115, 104, 101, 114, 100, 108, 97, 119] ++
  [50, 57, 46, 70, 105, 120, 77, 97, 105, 110, 115, 32, 115, 104, 101, 114, 100, 47, 115, 104, 101, 114, 100, 108, 97, 119, 51, 54, 46, 83, 101, 116, 116, 108, 101, 77, 101, 101, 116, 115, 32, 115, 104, 101, 114, 100, 47, 115, 104, 101, 114, 100, 108, 97, 119, 50, 49, 46, 83, 112] ++
  [97, 99, 101, 80, 108, 97, 121, 115, 32, 115, 104, 101, 114, 100, 47, 115, 104, 101, 114, 100, 108, 97, 119, 50, 49, 46, 83, 112, 97, 99, 101, 65, 112, 97, 114, 116, 32, 115, 104, 101, 114, 100, 47, 115, 104, 101, 114, 100, 108, 97, 119, 50, 49, 46, 83, 112, 97, 99, 101, 79] ++
  [119, 110, 32, 115, 104, 101, 114, 100, 47, 115, 104, 101, 114, 100, 108, 97, 119, 51, 55, 46, 67, 104, 111, 111, 115, 101, 85, 110, 115, 101, 101, 110, 32, 115, 104, 101, 114, 100, 47, 115, 104, 101, 114, 100, 108, 97, 119, 51, 55, 46, 67, 104, 111, 111, 115, 101, 80, 108, 97, 121] ++
  [115]
theorem head_list : Try.checked.prog.initOrder.toList = headSigns.map Char.ofNat := by
  have h : Try.checked.prog.initOrder = String.ofList (headSigns.map Char.ofNat) := by kernel_rfl
  rw [h, String.toList_ofList]
def restOf : List (List Char) → List (List Char)
  | _ :: r => r
  | [] => []
theorem head_cut : behindMainWord (wordsSigns Try.checked.prog.initOrder.toList) = "cut".toList :: restOf (behindMainWord (wordsSigns (headSigns.map Char.ofNat))) := by
  rw [head_list]
  kernel_rfl
theorem strip_cut (r : List (List Char)) : stripLifts liftWords ("cut".toList :: r) = ([], "cut".toList :: r) := by kernel_rfl
theorem mayEnter_of (P : Program) (r : List (List Char)) (h : behindMainWord (wordsSigns P.initOrder.toList) = "cut".toList :: r) (h1 : P.laysLater = false) (h2 : P.bearsReflect = false) (h3 : P.doorFits [] = true) : P.mayEnter = true := by
  unfold Program.mayEnter
  rw [h]
  simp only [strip_cut, h1, h2, h3]
  simp
theorem headLifts_of (P : Program) (r : List (List Char)) (h : behindMainWord (wordsSigns P.initOrder.toList) = "cut".toList :: r) : P.headLifts = [] := by
  unfold Program.headLifts
  rw [h, strip_cut]
  simp
theorem liftsFinal_of (P : Program) (r : List (List Char)) (h : behindMainWord (wordsSigns P.initOrder.toList) = "cut".toList :: r) : P.liftsFinal = false := by
  unfold Program.liftsFinal
  rw [headLifts_of P r h, h]
  simp
theorem make_of (P : Program) (r : List (List Char)) (h : behindMainWord (wordsSigns P.initOrder.toList) = "cut".toList :: r) : P.make = some .cut := by
  unfold Program.make
  rw [h]
  have e1 : ("cut".toList == "gc".toList || "cut".toList == "spec".toList) = false := by kernel_rfl
  have e2 : ("cut".toList == "cut".toList) = true := by kernel_rfl
  simp only [e1, e2, Bool.true_or, if_true]
  simp
theorem mayEnter : Try.checked.prog.mayEnter = true := mayEnter_of _ _ head_cut (by kernel_rfl) (by kernel_rfl) (by kernel_rfl)
theorem liftsFinal : Try.checked.prog.liftsFinal = false := liftsFinal_of _ _ head_cut
theorem make_cut : Try.checked.prog.make = some .cut := make_of _ _ head_cut
theorem laidOut : laidOutB Try.checked.prog = true := by kernel_rfl
theorem mapsRow : mapsRowed Try.checked.prog = true := by kernel_rfl
theorem plainK : Try.checked.prog.plainKeys = true := by kernel_rfl
theorem heard : Try.checked.prog.stopsHeard = true := by kernel_rfl
theorem noStops : Try.checked.prog.stops = [] := by kernel_rfl
theorem noStopKnobs : Try.checked.prog.stopKnobs = [] := by kernel_rfl
/-- The row's closed facts, one by one. -/
theorem joined_of (P : Program) (f : FuncId) (fn : Func) (s : ChangeSpec) (c : OpenClaim)
    (h0 : c.wf (OpenSpec.ofChange s) = true) (h1 : laidOutB P = true) (h2 : mapsRowed P = true)
    (h3 : fn.params.all (P.readableRec ·) = true) (h4 : namedTie P c.named s.vars = true)
    (h5 : c.stops = []) (h6 : P.stops = []) (h7 : c.knobs = []) (h8 : P.stopKnobs = [])
    (h9 : (c.inPlace == P.inPlace f) = true) (h10 : (c.unfollowed == P.unfollowed f) = true) (h11 : (c.recurses == P.recurses f) = true) (h12 : (c.named == P.varsNamed f) = true)
    (h13 : (c.maps == (fn.params.toList ++ s.plain.varTypes P).any (P.mapsRec ·)) = true) (h14 : (c.ifaces == (fn.params.toList ++ s.plain.varTypes P).any (P.ifacesRec ·)) = true) (h15 : (c.mapsOut == P.mapsAmong fn.resultTypes.toList) = true)
    (h16 : (c.loops == (fn.params.toList ++ s.plain.varTypes P).any (P.loopsFrom ·)) = true) (h17 : (c.wideKeys == (fn.params.toList ++ s.plain.varTypes P ++ fn.resultTypes.toList).any (P.wideKeysFrom ·)) = true)
    (h18 : s.vars.all (P.varReadable ·) = true) (h19 : fn.resultTypes.all (fun t => P.readableRec t && decide (t < P.types.size)) = true) (h20 : (c.ifacesOut == fn.resultTypes.toList.any (P.ifacesRec ·)) = true) (h21 : (c.loopsOut == fn.resultTypes.toList.any (P.loopsFrom ·)) = true)
    (h22 : (c.plainKeys == P.plainKeys) = true) (h23 : c.shortTexts.isNone = true) (h24 : P.stopsHeard = true) (h25 : P.mayEnter = true) (h26 : (c.lifted == P.liftsFinal) = true) (h27 : (P.make == some c.make) = true)
    (h28 : (c.kinds == (if c.domain.isEmpty then [] else fn.params.toList.map fun t => match P.underlying t with | some (.int k) => some k | _ => none)) = true) (h29 : (c.pinned == c.pinnedBy) = true)
    (h30 : (c.veiled == (fn.params.toList ++ s.plain.varTypes P ++ fn.resultTypes.toList).any (P.veiledRec ·)) = true) (h31 : c.veiledFits P fn.params.toList (fn.params.toList ++ s.plain.varTypes P ++ fn.resultTypes.toList) = true) : joinedFacts P f fn s c = true := by
  unfold joinedFacts
  rw [h0, h1, h2, h3, h4, h5, h6, h7, h8, h9, h10, h11, h12, h13, h14, h15, h16, h17, h18, h19, h20, h21, h22, h23, h24, h25, h26, h27, h29, h30, h31]
  simp only [Bool.true_and, Bool.and_true, BEq.rfl]
  exact h28
end Go.Proofs.Ytacbenjfiabegaa
