/- The law sherdlaw21.SpaceApart: for every input it returns true, and each argument reads behind the call as it read before. Conditions: none but those that the row prints. -/
import Derived.Test.YtacbenjfiabegaaRows
import Derived.Test.YtacbenjfiabegaaHead
import Derived.Test.YtacbenjfiabegaaRow
import Derived.Test.YtacbenjfiabegaaTc
import Derived.WalkKit
import Derived.ProofKit
import Derived.OpenShut
import Derived.ChangeOld
import Derived.Below
namespace Go.Proofs.Ytacbenjfiabegaa.spaceApart
open Go.ChangeShapes Go.WideShapes Go.ChangeAt Go.RowKit Go.Proofs.Sh Go.Proofs.YtacbenjfiabegaaW.PrintWords
set_option linter.unusedVariables false
theorem own : ownKnob Try.prog.godebug = none := by kernel_rfl
set_option maxRecDepth 100000 in
set_option maxHeartbeats 1600000 in
theorem lifted (os : Os) (started : os.Started) (H : Type) (enc : TypeId × Value → H) :
    ReturnsInHanded {} Try.checked os 7 .any (Rows.spaceApartSpec.pre6 enc Try.prog Try.f7 Rows.spaceApartRow.domain false) (Rows.spaceApartSpec.post enc Try.prog Try.f7 false true false false) := by
  refine returnsInHanded_of_change (C := Try.checked) own started (by kernel_rfl) Try.func7
    (ChangeSpec.witness6 (enc := enc) (C := Try.checked) false ⟨#[], #[.slice none 0 0], []⟩ 8 (by kernel_rfl) (by kernel_rfl) (by kernel_rfl) (by kernel_rfl)) ?_
  intro W base args ds gs before hval0 hW hcnd _
  have hval : ∀ (j : Nat) t v, Try.f7.params[j]? = some t → args[j]? = some v → Value.okWide Try.prog W .any base t v := hval0
  have hW' := hW
  obtain ⟨p, q, hA0, hV, rfl, hfz, hnd⟩ := hW
  have hA : DataW.TrodAll enc Try.prog W 0 (fun _ => true) true Try.f7.params.toList args.toList ds p := hA0
  rw [Try.params7] at hA hval
  obtain ⟨v0, vs0, d0, ds0, p0, q0, hargs, rfl, rfl, h0, r0⟩ := trodAll_cons hA
  obtain ⟨rfl, rfl, rfl⟩ := trodAll_nil r0
  obtain rfl : args = #[v0] := by cases args; simp_all
  obtain ⟨rfl, rfl⟩ := trodVars_none hV
  have k0 := h0
  have lt0 : ∀ x ∈ p0, x.block < W.heap.size := by obtain ⟨m, hm⟩ := k0; exact DataW.trod_lt m _ _ _ hm
  obtain ⟨A0, n0, e0, rfl⟩ := okWide_slice Try.underlying22 (hval 0 22 v0 rfl rfl)
  obtain ⟨m0, f0⟩ := h0
  obtain ⟨y0, K0, Q0⟩ := opens_slice Try.underlying22 (by kernel_rfl) (d := kb) rfl (fun _ _ _ h_ => opens_byte Try.underlying5 h_) (cs := [(.slice A0 n0 e0)]) f0
  have R0 := one_slice K0
  clear hA0 hval0
  refine (SpaceApart_walk W (.slice A0 n0 e0) y0 R0).mono fun e W' ⟨he, bel⟩ => ?_
  subst he
  exact ⟨_, rfl, _, _, _, [], _, [], hW', trodAll_mk1 (shut_bool Try.underlying4 _), (trodAll_cons_mk (Below.trod laidOut (by kernel_rfl) (of_decide_eq_true (by kernel_rfl)) k0 bel lt0) trodAll_mk0), rfl, bel.frame _, fun h => by cases h⟩
theorem f_inPlace : (Rows.spaceApartRow.inPlace == Try.checked.prog.inPlace 7) = true := by kernel_rfl
theorem f_unfollowed : (Rows.spaceApartRow.unfollowed == Try.checked.prog.unfollowed 7) = true := by kernel_rfl
theorem f_recurses : (Rows.spaceApartRow.recurses == Try.checked.prog.recurses 7) = true := by kernel_rfl
theorem f_named : (Rows.spaceApartRow.named == Try.checked.prog.varsNamed 7) = true := by kernel_rfl
theorem joined : joinedFacts Try.pinned.checked.prog 7 Try.f7 Rows.spaceApartSpec Rows.spaceApartRow = true :=
  joined_of _ _ _ _ _ (by kernel_rfl) laidOut mapsRow (by kernel_rfl) (by kernel_rfl) rfl noStops rfl noStopKnobs f_inPlace f_unfollowed f_recurses f_named
    (by kernel_rfl) (by kernel_rfl) (by kernel_rfl) (by kernel_rfl) (by kernel_rfl) (by kernel_rfl) (by kernel_rfl) (by kernel_rfl) (by kernel_rfl)
    (by rw [show Try.pinned.checked.prog.plainKeys = true from plainK]; rfl) rfl heard mayEnter (by rw [show Try.pinned.checked.prog.liftsFinal = false from liftsFinal]; rfl) (by rw [show Try.pinned.checked.prog.make = some .cut from make_cut]; rfl)
    (by kernel_rfl) (by kernel_rfl) (by kernel_rfl) (by kernel_rfl)
theorem over : Rows.spaceApartRow.holds Try.pinned (OpenSpec.ofChange Rows.spaceApartSpec) :=
  OpenClaim.holds_of_wide 7 Try.f7 rfl rfl rfl rfl rfl rfl rfl ⟨rfl, rfl, rfl, rfl, rfl⟩ rfl rfl rfl rfl rfl (by kernel_rfl) Try.func7 joined
    (of_decide_eq_true (by kernel_rfl)) (by unfold Func.isWrapper; first | (rw [if_pos (by decide +kernel)]; kernel_rfl) | (rw [if_neg (by decide +kernel)]; exact ⟨rfl, rfl⟩))
    (fun os started H enc _ => lifted os started H enc)
theorem proved : Rows.SpaceApartSaid := over
#print axioms proved
end Go.Proofs.Ytacbenjfiabegaa.spaceApart
namespace Go.Proofs.Ytacbenjfiabegaa
/-- The row, under a short name, for the claim. -/
theorem spaceApart_holds : Rows.SpaceApartSaid := spaceApart.proved
end Go.Proofs.Ytacbenjfiabegaa
