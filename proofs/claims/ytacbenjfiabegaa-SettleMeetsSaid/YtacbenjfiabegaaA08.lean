/- The example of layer 8. -/
import Derived.Test.YtacbenjfiabegaaR08b
import Derived.Test.YtacbenjfiabegaaR01
import Derived.Test.YtacbenjfiabegaaK4
namespace Go.Proofs.Ytacbenjfiabegaa
set_option linter.unusedVariables false
open Go.RowKit Go.Proofs.YtacbenjfiabegaaW.PrintWords Go.Proofs.Sh

/-- A plan of four custodians. -/
def somePl : Pl := { N := 4, T := 1, L := 2, W := 3, S := 16, R := 3 }
theorem somePl_ok : somePl.Ok := ⟨by decide, by decide, by decide, by decide, by decide, by decide, by decide, by decide, by decide⟩
set_option maxHeartbeats 400000 in
theorem some_c (w : World) :
   Calls Try.prog 56 #[] w fun e w' => e = .returned (.agg #[.int .i64 4, .int .i64 1, .int .i64 2, .int .i64 3, .int .i64 16, .int .i64 3]) ∧ Below w.heap.size w w' := by
  go_enter Try.func56, Try.ntmps56
  go_wp2
  simp [bodyPost, results, Try.results56, go_sem]
  exact below_alloc (Below.refl _ _) _
end Go.Proofs.Ytacbenjfiabegaa
