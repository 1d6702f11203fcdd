/- The law sherdlaw36.SettleMeets: for every input it returns true, and each argument reads behind the call as it read before. Conditions: none but those that the row prints. -/
import Derived.Test.YtacbenjfiabegaaRows
import Derived.Test.YtacbenjfiabegaaHead
import Derived.Test.YtacbenjfiabegaaRow
import Derived.Test.YtacbenjfiabegaaUi
import Derived.WalkKit
import Derived.ProofKit
import Derived.OpenShut
import Derived.ChangeOld
import Derived.Below
namespace Go.Proofs.Ytacbenjfiabegaa.settleMeets
open Go.ChangeShapes Go.WideShapes Go.ChangeAt Go.RowKit Go.Proofs.Sh Go.Proofs.YtacbenjfiabegaaW.PrintWords
set_option linter.unusedVariables false
theorem own : ownKnob Try.prog.godebug = none := by kernel_rfl
set_option maxRecDepth 100000 in
set_option maxHeartbeats 1600000 in
theorem lifted (os : Os) (started : os.Started) (H : Type) (enc : TypeId × Value → H) :
    ReturnsInHanded {} Try.checked os 5 .any (Rows.settleMeetsSpec.pre6 enc Try.prog Try.f5 Rows.settleMeetsRow.domain false) (Rows.settleMeetsSpec.post enc Try.prog Try.f5 false true false false) := by
  refine returnsInHanded_of_change (C := Try.checked) own started (by kernel_rfl) Try.func5
    (ChangeSpec.witness6 (enc := enc) (C := Try.checked) false ⟨#[], #[.agg #[.int .i64 0, .int .i64 0, .int .i64 0, .int .i64 0, .int .i64 0, .int .i64 0], .slice none 0 0, .slice none 0 0], []⟩ 8 (by kernel_rfl) (by kernel_rfl) (by kernel_rfl) (by kernel_rfl)) ?_
  intro W base args ds gs before hval0 hW hcnd _
  have hval : ∀ (j : Nat) t v, Try.f5.params[j]? = some t → args[j]? = some v → Value.okWide Try.prog W .any base t v := hval0
  have hW' := hW
  obtain ⟨p, q, hA0, hV, rfl, hfz, hnd⟩ := hW
  have hA : DataW.TrodAll enc Try.prog W 0 (fun _ => true) true Try.f5.params.toList args.toList ds p := hA0
  rw [Try.params5] at hA hval
  obtain ⟨v0, vs0, d0, ds0, p0, q0, hargs, rfl, rfl, h0, r0⟩ := trodAll_cons hA
  obtain ⟨v1, vs1, d1, ds1, p1, q1, rfl, rfl, rfl, h1, r1⟩ := trodAll_cons r0
  obtain ⟨v2, vs2, d2, ds2, p2, q2, rfl, rfl, rfl, h2, r2⟩ := trodAll_cons r1
  obtain ⟨rfl, rfl, rfl⟩ := trodAll_nil r2
  obtain rfl : args = #[v0, v1, v2] := by cases args; simp_all
  obtain ⟨rfl, rfl⟩ := trodVars_none hV
  have k0 := h0
  have lt0 : ∀ x ∈ p0, x.block < W.heap.size := by obtain ⟨m, hm⟩ := k0; exact DataW.trod_lt m _ _ _ hm
  obtain ⟨c0, rfl, s0⟩ := okWide_struct Try.underlying48 (hval 0 48 v0 rfl rfl)
  have z0 : Try.prog.cellsOf 48 = 6 := by kernel_rfl
  rw [z0] at s0
  obtain ⟨c0_0, c0_1, c0_2, c0_3, c0_4, c0_5, rfl⟩ := arr6 s0
  obtain ⟨m0, f0⟩ := h0
  obtain ⟨m0_0, g0_0, f0_0⟩ := cells_struct Try.underlying48 f0 0 _ rfl (by kernel_rfl) c0_0 _ rfl
  obtain ⟨m0_1, g0_1, f0_1⟩ := cells_struct Try.underlying48 f0 1 _ rfl (by kernel_rfl) c0_1 _ rfl
  obtain ⟨m0_2, g0_2, f0_2⟩ := cells_struct Try.underlying48 f0 2 _ rfl (by kernel_rfl) c0_2 _ rfl
  obtain ⟨m0_3, g0_3, f0_3⟩ := cells_struct Try.underlying48 f0 3 _ rfl (by kernel_rfl) c0_3 _ rfl
  obtain ⟨m0_4, g0_4, f0_4⟩ := cells_struct Try.underlying48 f0 4 _ rfl (by kernel_rfl) c0_4 _ rfl
  obtain ⟨m0_5, g0_5, f0_5⟩ := cells_struct Try.underlying48 f0 5 _ rfl (by kernel_rfl) c0_5 _ rfl
  obtain ⟨y0, K0, Q0⟩ := opens_int Try.underlying3 f0_0
  obtain rfl := one_int K0
  obtain ⟨y1, K1, Q1⟩ := opens_int Try.underlying3 f0_1
  obtain rfl := one_int K1
  obtain ⟨y2, K2, Q2⟩ := opens_int Try.underlying3 f0_2
  obtain rfl := one_int K2
  obtain ⟨y3, K3, Q3⟩ := opens_int Try.underlying3 f0_3
  obtain rfl := one_int K3
  obtain ⟨y4, K4, Q4⟩ := opens_int Try.underlying3 f0_4
  obtain rfl := one_int K4
  obtain ⟨y5, K5, Q5⟩ := opens_int Try.underlying3 f0_5
  obtain rfl := one_int K5
  have k1 := h1
  have lt1 : ∀ x ∈ p1, x.block < W.heap.size := by obtain ⟨m, hm⟩ := k1; exact DataW.trod_lt m _ _ _ hm
  obtain ⟨A1, n1, e1, rfl⟩ := okWide_slice Try.underlying49 (hval 1 49 v1 rfl rfl)
  obtain ⟨m1, f1⟩ := h1
  obtain ⟨y6, K6, Q6⟩ := opens_wide Try.underlying49 (by kernel_rfl) (d := kMr) (fun _ _ _ l_ h_ => opens_msg l_ h_) (cs := [(.slice A1 n1 e1)]) f1
  have R6 := one_slice K6
  have k2 := h2
  have lt2 : ∀ x ∈ p2, x.block < W.heap.size := by obtain ⟨m, hm⟩ := k2; exact DataW.trod_lt m _ _ _ hm
  obtain ⟨A2, n2, e2, rfl⟩ := okWide_slice Try.underlying50 (hval 2 50 v2 rfl rfl)
  obtain ⟨m2, f2⟩ := h2
  obtain ⟨y7, K7, Q7⟩ := opens_slice Try.underlying50 (by kernel_rfl) (d := Kd.bool) rfl (fun _ _ _ h_ => opens_bool Try.underlying4 h_) (cs := [(.slice A2 n2 e2)]) f2
  have R7 := one_slice K7
  clear hA0 hval0
  refine (SettleMeets_walk W y0 Q0 y1 Q1 y2 Q2 y3 Q3 y4 Q4 y5 Q5 (.slice A1 n1 e1) y6 R6 (.slice A2 n2 e2) y7 R7).mono fun e W' ⟨he, bel⟩ => ?_
  subst he
  exact ⟨_, rfl, _, _, _, [], _, [], hW', trodAll_mk1 (shut_bool Try.underlying4 _), (trodAll_cons_mk (Below.trod laidOut (by kernel_rfl) (of_decide_eq_true (by kernel_rfl)) k0 bel lt0) (trodAll_cons_mk (Below.trod laidOut (by kernel_rfl) (of_decide_eq_true (by kernel_rfl)) k1 bel lt1) (trodAll_cons_mk (Below.trod laidOut (by kernel_rfl) (of_decide_eq_true (by kernel_rfl)) k2 bel lt2) trodAll_mk0))), rfl, bel.frame _, fun h => by cases h⟩
theorem f_inPlace : (Rows.settleMeetsRow.inPlace == Try.checked.prog.inPlace 5) = true := by kernel_rfl
theorem f_unfollowed : (Rows.settleMeetsRow.unfollowed == Try.checked.prog.unfollowed 5) = true := by kernel_rfl
theorem f_recurses : (Rows.settleMeetsRow.recurses == Try.checked.prog.recurses 5) = true := by kernel_rfl
theorem f_named : (Rows.settleMeetsRow.named == Try.checked.prog.varsNamed 5) = true := by kernel_rfl
theorem joined : joinedFacts Try.pinned.checked.prog 5 Try.f5 Rows.settleMeetsSpec Rows.settleMeetsRow = true :=
  joined_of _ _ _ _ _ (by kernel_rfl) laidOut mapsRow (by kernel_rfl) (by kernel_rfl) rfl noStops rfl noStopKnobs f_inPlace f_unfollowed f_recurses f_named
    (by kernel_rfl) (by kernel_rfl) (by kernel_rfl) (by kernel_rfl) (by kernel_rfl) (by kernel_rfl) (by kernel_rfl) (by kernel_rfl) (by kernel_rfl)
    (by rw [show Try.pinned.checked.prog.plainKeys = true from plainK]; rfl) rfl heard mayEnter (by rw [show Try.pinned.checked.prog.liftsFinal = false from liftsFinal]; rfl) (by rw [show Try.pinned.checked.prog.make = some .cut from make_cut]; rfl)
    (by kernel_rfl) (by kernel_rfl) (by kernel_rfl) (by kernel_rfl)
theorem over : Rows.settleMeetsRow.holds Try.pinned (OpenSpec.ofChange Rows.settleMeetsSpec) :=
  OpenClaim.holds_of_wide 5 Try.f5 rfl rfl rfl rfl rfl rfl rfl ⟨rfl, rfl, rfl, rfl, rfl⟩ rfl rfl rfl rfl rfl (by kernel_rfl) Try.func5 joined
    (of_decide_eq_true (by kernel_rfl)) (by unfold Func.isWrapper; first | (rw [if_pos (by decide +kernel)]; kernel_rfl) | (rw [if_neg (by decide +kernel)]; exact ⟨rfl, rfl⟩))
    (fun os started H enc _ => lifted os started H enc)
theorem proved : Rows.SettleMeetsSaid := over
#print axioms proved
end Go.Proofs.Ytacbenjfiabegaa.settleMeets
namespace Go.Proofs.Ytacbenjfiabegaa
/-- The row, under a short name, for the claim. -/
theorem settleMeets_holds : Rows.SettleMeetsSaid := settleMeets.proved
end Go.Proofs.Ytacbenjfiabegaa
