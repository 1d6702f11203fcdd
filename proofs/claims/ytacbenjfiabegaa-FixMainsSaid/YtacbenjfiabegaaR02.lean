/- The walks of the reference of layer 2 (polynomials). -/
import Derived.Test.YtacbenjfiabegaaK4
import Derived.Test.YtacbenjfiabegaaL01
import Derived.Test.YtacbenjfiabegaaM5
namespace Go.Proofs.Ytacbenjfiabegaa
set_option linter.unusedVariables false
open Go.RowKit Go.Proofs.YtacbenjfiabegaaW.PrintWords Go.Proofs.Sh

end Go.Proofs.Ytacbenjfiabegaa
