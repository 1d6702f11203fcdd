/- The law sherdlaw21.SpacePlays: for every input it returns true, and each argument reads behind the call as it read before. Conditions: none but those that the row prints. -/
import Derived.Test.YtacbenjfiabegaaRows
import Derived.Test.YtacbenjfiabegaaHead
import Derived.Test.YtacbenjfiabegaaRow
import Derived.Test.YtacbenjfiabegaaTh
import Derived.WalkKit
import Derived.ProofKit
import Derived.OpenShut
import Derived.ChangeOld
import Derived.Below
namespace Go.Proofs.Ytacbenjfiabegaa.spacePlays
open Go.ChangeShapes Go.WideShapes Go.ChangeAt Go.RowKit Go.Proofs.Sh Go.Proofs.YtacbenjfiabegaaW.PrintWords
set_option linter.unusedVariables false
theorem own : ownKnob Try.prog.godebug = none := by kernel_rfl
set_option maxRecDepth 100000 in
set_option maxHeartbeats 1600000 in
theorem lifted (os : Os) (started : os.Started) (H : Type) (enc : TypeId × Value → H) :
    ReturnsInHanded {} Try.checked os 6 .any (Rows.spacePlaysSpec.pre6 enc Try.prog Try.f6 Rows.spacePlaysRow.domain false) (Rows.spacePlaysSpec.post enc Try.prog Try.f6 false true false false) := by
  refine returnsInHanded_of_change (C := Try.checked) own started (by kernel_rfl) Try.func6
    (ChangeSpec.witness6 (enc := enc) (C := Try.checked) false ⟨#[], #[.int .i64 0, .slice none 0 0, .int .i64 0], []⟩ 8 (by kernel_rfl) (by kernel_rfl) (by kernel_rfl) (by kernel_rfl)) ?_
  intro W base args ds gs before hval0 hW hcnd _
  have hval : ∀ (j : Nat) t v, Try.f6.params[j]? = some t → args[j]? = some v → Value.okWide Try.prog W .any base t v := hval0
  have hW' := hW
  obtain ⟨p, q, hA0, hV, rfl, hfz, hnd⟩ := hW
  have hA : DataW.TrodAll enc Try.prog W 0 (fun _ => true) true Try.f6.params.toList args.toList ds p := hA0
  rw [Try.params6] at hA hval
  obtain ⟨v0, vs0, d0, ds0, p0, q0, hargs, rfl, rfl, h0, r0⟩ := trodAll_cons hA
  obtain ⟨v1, vs1, d1, ds1, p1, q1, rfl, rfl, rfl, h1, r1⟩ := trodAll_cons r0
  obtain ⟨v2, vs2, d2, ds2, p2, q2, rfl, rfl, rfl, h2, r2⟩ := trodAll_cons r1
  obtain ⟨rfl, rfl, rfl⟩ := trodAll_nil r2
  obtain rfl : args = #[v0, v1, v2] := by cases args; simp_all
  obtain ⟨rfl, rfl⟩ := trodVars_none hV
  have k0 := h0
  have lt0 : ∀ x ∈ p0, x.block < W.heap.size := by obtain ⟨m, hm⟩ := k0; exact DataW.trod_lt m _ _ _ hm
  obtain ⟨i0, rfl⟩ := okWide_int Try.underlying3 (hval 0 3 v0 rfl rfl)
  obtain ⟨m0, f0⟩ := h0
  obtain ⟨y0, K0, Q0⟩ := opens_int Try.underlying3 (cs := [(.int .i64 i0)]) f0
  have e0 : y0 = i0 := by have := one_int K0; injection this with _ h_; exact h_.symm
  subst e0
  have k1 := h1
  have lt1 : ∀ x ∈ p1, x.block < W.heap.size := by obtain ⟨m, hm⟩ := k1; exact DataW.trod_lt m _ _ _ hm
  obtain ⟨A1, n1, e1, rfl⟩ := okWide_slice Try.underlying61 (hval 1 61 v1 rfl rfl)
  obtain ⟨m1, f1⟩ := h1
  obtain ⟨y1, K1, Q1⟩ := opens_many Try.underlying61 (by kernel_rfl) (d := ka) (fun _ _ _ l_ h_ => opens_act l_ h_) (cs := [(.slice A1 n1 e1)]) f1
  have R1 := one_slice K1
  have k2 := h2
  have lt2 : ∀ x ∈ p2, x.block < W.heap.size := by obtain ⟨m, hm⟩ := k2; exact DataW.trod_lt m _ _ _ hm
  obtain ⟨i2, rfl⟩ := okWide_int Try.underlying3 (hval 2 3 v2 rfl rfl)
  obtain ⟨m2, f2⟩ := h2
  obtain ⟨y2, K2, Q2⟩ := opens_int Try.underlying3 (cs := [(.int .i64 i2)]) f2
  have e2 : y2 = i2 := by have := one_int K2; injection this with _ h_; exact h_.symm
  subst e2
  clear hA0 hval0
  refine (SpacePlays_walk W y0 Q0 (.slice A1 n1 e1) y1 R1 y2 Q2).mono fun e W' ⟨he, bel⟩ => ?_
  subst he
  exact ⟨_, rfl, _, _, _, [], _, [], hW', trodAll_mk1 (shut_bool Try.underlying4 _), (trodAll_cons_mk (Below.trod laidOut (by kernel_rfl) (of_decide_eq_true (by kernel_rfl)) k0 bel lt0) (trodAll_cons_mk (Below.trod laidOut (by kernel_rfl) (of_decide_eq_true (by kernel_rfl)) k1 bel lt1) (trodAll_cons_mk (Below.trod laidOut (by kernel_rfl) (of_decide_eq_true (by kernel_rfl)) k2 bel lt2) trodAll_mk0))), rfl, bel.frame _, fun h => by cases h⟩
theorem f_inPlace : (Rows.spacePlaysRow.inPlace == Try.checked.prog.inPlace 6) = true := by kernel_rfl
theorem f_unfollowed : (Rows.spacePlaysRow.unfollowed == Try.checked.prog.unfollowed 6) = true := by kernel_rfl
theorem f_recurses : (Rows.spacePlaysRow.recurses == Try.checked.prog.recurses 6) = true := by kernel_rfl
theorem f_named : (Rows.spacePlaysRow.named == Try.checked.prog.varsNamed 6) = true := by kernel_rfl
theorem joined : joinedFacts Try.pinned.checked.prog 6 Try.f6 Rows.spacePlaysSpec Rows.spacePlaysRow = true :=
  joined_of _ _ _ _ _ (by kernel_rfl) laidOut mapsRow (by kernel_rfl) (by kernel_rfl) rfl noStops rfl noStopKnobs f_inPlace f_unfollowed f_recurses f_named
    (by kernel_rfl) (by kernel_rfl) (by kernel_rfl) (by kernel_rfl) (by kernel_rfl) (by kernel_rfl) (by kernel_rfl) (by kernel_rfl) (by kernel_rfl)
    (by rw [show Try.pinned.checked.prog.plainKeys = true from plainK]; rfl) rfl heard mayEnter (by rw [show Try.pinned.checked.prog.liftsFinal = false from liftsFinal]; rfl) (by rw [show Try.pinned.checked.prog.make = some .cut from make_cut]; rfl)
    (by kernel_rfl) (by kernel_rfl) (by kernel_rfl) (by kernel_rfl)
theorem over : Rows.spacePlaysRow.holds Try.pinned (OpenSpec.ofChange Rows.spacePlaysSpec) :=
  OpenClaim.holds_of_wide 6 Try.f6 rfl rfl rfl rfl rfl rfl rfl ⟨rfl, rfl, rfl, rfl, rfl⟩ rfl rfl rfl rfl rfl (by kernel_rfl) Try.func6 joined
    (of_decide_eq_true (by kernel_rfl)) (by unfold Func.isWrapper; first | (rw [if_pos (by decide +kernel)]; kernel_rfl) | (rw [if_neg (by decide +kernel)]; exact ⟨rfl, rfl⟩))
    (fun os started H enc _ => lifted os started H enc)
theorem proved : Rows.SpacePlaysSaid := over
#print axioms proved
end Go.Proofs.Ytacbenjfiabegaa.spacePlays
namespace Go.Proofs.Ytacbenjfiabegaa
/-- The row, under a short name, for the claim. -/
theorem spacePlays_holds : Rows.SpacePlaysSaid := spacePlays.proved
end Go.Proofs.Ytacbenjfiabegaa
