/- The walks of package poly. -/
import Derived.Test.YtacbenjfiabegaaK4
import Derived.Deep.RegionLaw
import Derived.Test.YtacbenjfiabegaaL01
import Derived.Test.YtacbenjfiabegaaM5
namespace Go.Proofs.Ytacbenjfiabegaa
set_option linter.unusedVariables false
open Go.RowKit Go.Proofs.YtacbenjfiabegaaW.PrintWords Go.Proofs.Sh

theorem IsField.alloc {w : World} {b : Nat} (h : IsField w b) (o : Obj) : IsField (w.alloc o) b := h.below (below_alloc (Below.refl _ _) o)
end Go.Proofs.Ytacbenjfiabegaa
