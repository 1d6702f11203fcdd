/- The example of layer 8. -/
import Derived.Test.YtijeabhfddaoaaaR08b
import Derived.Test.YtijeabhfddaoaaaR01
import Derived.Test.YtijeabhfddaoaaaK4
namespace Go.Proofs.Ytijeabhfddaoaaa
set_option linter.unusedVariables false
open Go.RowKit Go.Proofs.YtijeabhfddaoaaaW.PrintWords Go.Proofs.Sh

/-- A plan of four custodians. -/
def somePl : Pl := { N := 4, T := 1, L := 2, W := 3, S := 16, R := 3 }
theorem somePl_ok : somePl.Ok := ⟨by decide, by decide, by decide, by decide, by decide, by decide, by decide, by decide, by decide⟩
set_option maxHeartbeats 400000 in
theorem some_c (w : World) :
   Calls Try.prog 153 #[] w fun e w' => e = .returned (.agg #[.int .i64 4, .int .i64 1, .int .i64 2, .int .i64 3, .int .i64 16, .int .i64 3]) ∧ Below w.heap.size w w' := by
  go_enter Try.func153, Try.ntmps153
  go_wp2
  simp [bodyPost, results, Try.results153, go_sem]
  exact below_alloc (Below.refl _ _) _
set_option maxHeartbeats 1600000 in
theorem alive08 (w : World) :
   Calls Try.prog 49 #[] w fun e w' => e = .returned (.bool true) ∧ Below w.heap.size w w' := by
  have E1 : Hid (decide (secretsAt somePl = [F.of 4, F.of 5]) = true) := Lib.hid (by decide +kernel)
  go_enter Try.func49, Try.ntmps49
  go_wp2_with fail
  refine (some_c _).mono ?_
  rintro e w1 ⟨rfl, h1⟩
  go_wp2_with fail
  have HP := Blk.new w1 #[.int .i64 4, .int .i64 1, .int .i64 2, .int .i64 3, .int .i64 16, .int .i64 3] 33
  have hB := bt_ h1 (below_alloc (Below.refl _ _) (.cells #[.int .i64 4, .int .i64 1, .int .i64 2, .int .i64 3, .int .i64 16, .int .i64 3] 33))
  go_wp2_with fail
  refine (right_yes somePl somePl_ok _).mono ?_
  rintro e w2 ⟨rfl, h2⟩
  have HP := HP.below h2
  obtain ⟨c0, c1, c2, c3, c4, c5⟩ := cells6 HP
  go_wp2_with fail
  refine (need_yes somePl somePl_ok _).mono ?_
  rintro e w3 ⟨rfl, h3⟩
  rw [show somePl.T + somePl.L = 3 from rfl]
  have HP := HP.below h3
  obtain ⟨c0, c1, c2, c3, c4, c5⟩ := cells6 HP
  go_wp2_with fail
  refine (quorum_yes somePl somePl_ok _).mono ?_
  rintro e w4 ⟨rfl, h4⟩
  rw [show somePl.N - somePl.W + 1 = 2 from rfl]
  have HP := HP.below h4
  obtain ⟨c0, c1, c2, c3, c4, c5⟩ := cells6 HP
  go_wp2_with fail
  refine (dealers_yes somePl somePl_ok _).mono ?_
  rintro e w5 ⟨rfl, h5⟩
  rw [show somePl.T + 1 = 2 from rfl]
  have HP := HP.below h5
  obtain ⟨c0, c1, c2, c3, c4, c5⟩ := cells6 HP
  go_wp2_with fail
  refine (secrets_yes somePl somePl_ok _).mono ?_
  rintro e w6 ⟨v, rfl, ho, h6⟩
  have HP := HP.below h6
  obtain ⟨c0, c1, c2, c3, c4, c5⟩ := cells6 HP
  go_wp2_with fail
  refine (rSame_c _ _ (secretsAt somePl) [F.of 4, F.of 5] _ (ho.rk.alloc _) (lit_b _ _ _ _ _ _ rfl rfl (by decide) (by decide))).mono ?_
  rintro e w7 ⟨rfl, h7⟩
  rw [E1.out]
  have hb7 := bt_ (below_alloc (Below.refl _ _) _) h7.below
  have HP := HP.below hb7
  obtain ⟨c0, c1, c2, c3, c4, c5⟩ := cells6 HP
  go_wp2_with fail
  refine (stripes_yes somePl somePl_ok 5 _).mono ?_
  rintro e w8 ⟨rfl, h8⟩
  rw [show stripesOf somePl 5 = 3 from rfl]
  go_wp2
  go_ret
  exact ⟨rfl, bt_ (bt_ (bt_ (bt_ (bt_ (bt_ (bt_ hB h2) h3) h4) h5) h6) hb7) h8⟩

end Go.Proofs.Ytijeabhfddaoaaa
