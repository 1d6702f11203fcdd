/- The law sherdlaw21.SpaceOwn: for every input it returns true, and each argument reads behind the call as it read before. Conditions: none but those that the row prints. -/
import Derived.Test.YtacbenjfiabegaaRows
import Derived.Test.YtacbenjfiabegaaHead
import Derived.Test.YtacbenjfiabegaaRow
import Derived.Test.YtacbenjfiabegaaTa
import Derived.WalkKit
import Derived.ProofKit
import Derived.OpenShut
import Derived.ChangeOld
import Derived.Below
namespace Go.Proofs.Ytacbenjfiabegaa.spaceOwn
open Go.ChangeShapes Go.WideShapes Go.ChangeAt Go.RowKit Go.Proofs.Sh Go.Proofs.YtacbenjfiabegaaW.PrintWords
set_option linter.unusedVariables false
theorem own : ownKnob Try.prog.godebug = none := by kernel_rfl
set_option maxRecDepth 100000 in
set_option maxHeartbeats 1600000 in
theorem lifted (os : Os) (started : os.Started) (H : Type) (enc : TypeId × Value → H) :
    ReturnsInHanded {} Try.checked os 8 .any (Rows.spaceOwnSpec.pre6 enc Try.prog Try.f8 Rows.spaceOwnRow.domain false) (Rows.spaceOwnSpec.post enc Try.prog Try.f8 false true false false) := by
  refine returnsInHanded_of_change (C := Try.checked) own started (by kernel_rfl) Try.func8
    (ChangeSpec.witness6 (enc := enc) (C := Try.checked) false ⟨#[], #[.agg #[.int .i64 0, .int .i64 0, .int .i64 0], .int .i64 0, .int .i64 0], []⟩ 8 (by kernel_rfl) (by kernel_rfl) (by kernel_rfl) (by kernel_rfl)) ?_
  intro W base args ds gs before hval0 hW hcnd _
  have hval : ∀ (j : Nat) t v, Try.f8.params[j]? = some t → args[j]? = some v → Value.okWide Try.prog W .any base t v := hval0
  have hW' := hW
  obtain ⟨p, q, hA0, hV, rfl, hfz, hnd⟩ := hW
  have hA : DataW.TrodAll enc Try.prog W 0 (fun _ => true) true Try.f8.params.toList args.toList ds p := hA0
  rw [Try.params8] at hA hval
  obtain ⟨v0, vs0, d0, ds0, p0, q0, hargs, rfl, rfl, h0, r0⟩ := trodAll_cons hA
  obtain ⟨v1, vs1, d1, ds1, p1, q1, rfl, rfl, rfl, h1, r1⟩ := trodAll_cons r0
  obtain ⟨v2, vs2, d2, ds2, p2, q2, rfl, rfl, rfl, h2, r2⟩ := trodAll_cons r1
  obtain ⟨rfl, rfl, rfl⟩ := trodAll_nil r2
  obtain rfl : args = #[v0, v1, v2] := by cases args; simp_all
  obtain ⟨rfl, rfl⟩ := trodVars_none hV
  have k0 := h0
  have lt0 : ∀ x ∈ p0, x.block < W.heap.size := by obtain ⟨m, hm⟩ := k0; exact DataW.trod_lt m _ _ _ hm
  obtain ⟨c0, rfl, s0⟩ := okWide_struct Try.underlying67 (hval 0 67 v0 rfl rfl)
  have z0 : Try.prog.cellsOf 67 = 3 := by kernel_rfl
  rw [z0] at s0
  obtain ⟨c0_0, c0_1, c0_2, rfl⟩ := arr3 s0
  obtain ⟨m0, f0⟩ := h0
  obtain ⟨m0_0, g0_0, f0_0⟩ := cells_struct Try.underlying67 f0 0 _ rfl (by kernel_rfl) c0_0 _ rfl
  obtain ⟨m0_1, g0_1, f0_1⟩ := cells_struct Try.underlying67 f0 1 _ rfl (by kernel_rfl) c0_1 _ rfl
  obtain ⟨m0_2, g0_2, f0_2⟩ := cells_struct Try.underlying67 f0 2 _ rfl (by kernel_rfl) c0_2 _ rfl
  obtain ⟨y0, K0, Q0⟩ := opens_int Try.underlying3 f0_0
  obtain rfl := one_int K0
  obtain ⟨y1, K1, Q1⟩ := opens_int Try.underlying3 f0_1
  obtain rfl := one_int K1
  obtain ⟨y2, K2, Q2⟩ := opens_int Try.underlying3 f0_2
  obtain rfl := one_int K2
  have k1 := h1
  have lt1 : ∀ x ∈ p1, x.block < W.heap.size := by obtain ⟨m, hm⟩ := k1; exact DataW.trod_lt m _ _ _ hm
  obtain ⟨i1, rfl⟩ := okWide_int Try.underlying3 (hval 1 3 v1 rfl rfl)
  obtain ⟨m1, f1⟩ := h1
  obtain ⟨y3, K3, Q3⟩ := opens_int Try.underlying3 (cs := [(.int .i64 i1)]) f1
  have e1 : y3 = i1 := by have := one_int K3; injection this with _ h_; exact h_.symm
  subst e1
  have k2 := h2
  have lt2 : ∀ x ∈ p2, x.block < W.heap.size := by obtain ⟨m, hm⟩ := k2; exact DataW.trod_lt m _ _ _ hm
  obtain ⟨i2, rfl⟩ := okWide_int Try.underlying3 (hval 2 3 v2 rfl rfl)
  obtain ⟨m2, f2⟩ := h2
  obtain ⟨y4, K4, Q4⟩ := opens_int Try.underlying3 (cs := [(.int .i64 i2)]) f2
  have e2 : y4 = i2 := by have := one_int K4; injection this with _ h_; exact h_.symm
  subst e2
  clear hA0 hval0
  refine (SpaceOwn_walk W y0 Q0 y1 Q1 y2 Q2 y3 Q3 y4 Q4).mono fun e W' ⟨he, bel⟩ => ?_
  subst he
  exact ⟨_, rfl, _, _, _, [], _, [], hW', trodAll_mk1 (shut_bool Try.underlying4 _), (trodAll_cons_mk (Below.trod laidOut (by kernel_rfl) (of_decide_eq_true (by kernel_rfl)) k0 bel lt0) (trodAll_cons_mk (Below.trod laidOut (by kernel_rfl) (of_decide_eq_true (by kernel_rfl)) k1 bel lt1) (trodAll_cons_mk (Below.trod laidOut (by kernel_rfl) (of_decide_eq_true (by kernel_rfl)) k2 bel lt2) trodAll_mk0))), rfl, bel.frame _, fun h => by cases h⟩
theorem f_inPlace : (Rows.spaceOwnRow.inPlace == Try.checked.prog.inPlace 8) = true := by kernel_rfl
theorem f_unfollowed : (Rows.spaceOwnRow.unfollowed == Try.checked.prog.unfollowed 8) = true := by kernel_rfl
theorem f_recurses : (Rows.spaceOwnRow.recurses == Try.checked.prog.recurses 8) = true := by kernel_rfl
theorem f_named : (Rows.spaceOwnRow.named == Try.checked.prog.varsNamed 8) = true := by kernel_rfl
theorem joined : joinedFacts Try.pinned.checked.prog 8 Try.f8 Rows.spaceOwnSpec Rows.spaceOwnRow = true :=
  joined_of _ _ _ _ _ (by kernel_rfl) laidOut mapsRow (by kernel_rfl) (by kernel_rfl) rfl noStops rfl noStopKnobs f_inPlace f_unfollowed f_recurses f_named
    (by kernel_rfl) (by kernel_rfl) (by kernel_rfl) (by kernel_rfl) (by kernel_rfl) (by kernel_rfl) (by kernel_rfl) (by kernel_rfl) (by kernel_rfl)
    (by rw [show Try.pinned.checked.prog.plainKeys = true from plainK]; rfl) rfl heard mayEnter (by rw [show Try.pinned.checked.prog.liftsFinal = false from liftsFinal]; rfl) (by rw [show Try.pinned.checked.prog.make = some .cut from make_cut]; rfl)
    (by kernel_rfl) (by kernel_rfl) (by kernel_rfl) (by kernel_rfl)
theorem over : Rows.spaceOwnRow.holds Try.pinned (OpenSpec.ofChange Rows.spaceOwnSpec) :=
  OpenClaim.holds_of_wide 8 Try.f8 rfl rfl rfl rfl rfl rfl rfl ⟨rfl, rfl, rfl, rfl, rfl⟩ rfl rfl rfl rfl rfl (by kernel_rfl) Try.func8 joined
    (of_decide_eq_true (by kernel_rfl)) (by unfold Func.isWrapper; first | (rw [if_pos (by decide +kernel)]; kernel_rfl) | (rw [if_neg (by decide +kernel)]; exact ⟨rfl, rfl⟩))
    (fun os started H enc _ => lifted os started H enc)
theorem proved : Rows.SpaceOwnSaid := over
#print axioms proved
end Go.Proofs.Ytacbenjfiabegaa.spaceOwn
namespace Go.Proofs.Ytacbenjfiabegaa
/-- The row, under a short name, for the claim. -/
theorem spaceOwn_holds : Rows.SpaceOwnSaid := spaceOwn.proved
end Go.Proofs.Ytacbenjfiabegaa
