/- The law sherdlaw29.FixMains: for every input it returns true, and each argument reads behind the call as it read before. Conditions: none but those that the row prints. -/
import Derived.Test.YtacbenjfiabegaaRows
import Derived.Test.YtacbenjfiabegaaHead
import Derived.Test.YtacbenjfiabegaaRow3
import Derived.Test.YtacbenjfiabegaaFm
import Derived.WalkKit
import Derived.ProofKit
import Derived.OpenShut
import Derived.ChangeOld
import Derived.Below
namespace Go.Proofs.Ytacbenjfiabegaa.fixMains
open Go.ChangeShapes Go.WideShapes Go.ChangeAt Go.RowKit Go.Proofs.Sh Go.Proofs.YtacbenjfiabegaaW.PrintWords
set_option linter.unusedVariables false
theorem own : ownKnob Try.prog.godebug = none := by kernel_rfl
set_option maxRecDepth 100000 in
set_option maxHeartbeats 1600000 in
theorem lifted (os : Os) (started : os.Started) (H : Type) (enc : TypeId × Value → H) :
    ReturnsInHanded {} Try.checked os 4 .any (Rows.fixMainsSpec.pre6 enc Try.prog Try.f4 Rows.fixMainsRow.domain false) (Rows.fixMainsSpec.post enc Try.prog Try.f4 false true false false) := by
  refine returnsInHanded_of_change (C := Try.checked) own started (by kernel_rfl) Try.func4
    (ChangeSpec.witness6 (enc := enc) (C := Try.checked) false ⟨#[], #[.agg #[.int .i64 0, .string ⟨#[]⟩, .int .i64 0, .int .i64 0, .int .i64 0, .int .i64 0, .slice none 0 0, .int .i64 0, .string ⟨#[]⟩, .int .i64 0, .int .i64 0, .int .i64 0, .int .i64 0, .slice none 0 0, .int .i64 0, .string ⟨#[]⟩, .int .i64 0, .int .i64 0, .int .i64 0, .int .i64 0, .slice none 0 0], .string ⟨#[]⟩, .agg #[.int .i64 0, .bool false, .int .i64 0, .int .i64 0, .int .i64 0]], []⟩ 8 (by kernel_rfl) (by kernel_rfl) (by kernel_rfl) (by kernel_rfl)) ?_
  intro W base args ds gs before hval0 hW hcnd _
  have hval : ∀ (j : Nat) t v, Try.f4.params[j]? = some t → args[j]? = some v → Value.okWide Try.prog W .any base t v := hval0
  have hW' := hW
  obtain ⟨p, q, hA0, hV, rfl, hfz, hnd⟩ := hW
  have hA : DataW.TrodAll enc Try.prog W 0 (fun _ => true) true Try.f4.params.toList args.toList ds p := hA0
  rw [Try.params4] at hA hval
  obtain ⟨v0, vs0, d0, ds0, p0, q0, hargs, rfl, rfl, h0, r0⟩ := trodAll_cons hA
  obtain ⟨v1, vs1, d1, ds1, p1, q1, rfl, rfl, rfl, h1, r1⟩ := trodAll_cons r0
  obtain ⟨v2, vs2, d2, ds2, p2, q2, rfl, rfl, rfl, h2, r2⟩ := trodAll_cons r1
  obtain ⟨rfl, rfl, rfl⟩ := trodAll_nil r2
  obtain rfl : args = #[v0, v1, v2] := by cases args; simp_all
  obtain ⟨rfl, rfl⟩ := trodVars_none hV
  have k0 := h0
  have lt0 : ∀ x ∈ p0, x.block < W.heap.size := by obtain ⟨m, hm⟩ := k0; exact DataW.trod_lt m _ _ _ hm
  obtain ⟨c0, rfl, s0⟩ := okWide_struct Try.underlying26 (hval 0 26 v0 rfl rfl)
  have z0 : Try.prog.cellsOf 26 = 21 := by kernel_rfl
  rw [z0] at s0
  obtain ⟨c0_0, c0_1, c0_2, c0_3, c0_4, c0_5, c0_6, c0_7, c0_8, c0_9, c0_10, c0_11, c0_12, c0_13, c0_14, c0_15, c0_16, c0_17, c0_18, c0_19, c0_20, rfl⟩ := arr21 s0
  obtain ⟨m0, f0⟩ := h0
  obtain ⟨m0_0, g0_0, f0_0⟩ := cells_sub Try.underlying26 f0 0 _ rfl [c0_0, c0_1, c0_2, c0_3, c0_4, c0_5, c0_6] 7 (by kernel_rfl) rfl
  obtain ⟨m0_1, g0_1, f0_1⟩ := cells_sub Try.underlying26 f0 1 _ rfl [c0_7, c0_8, c0_9, c0_10, c0_11, c0_12, c0_13] 7 (by kernel_rfl) rfl
  obtain ⟨m0_2, g0_2, f0_2⟩ := cells_sub Try.underlying26 f0 2 _ rfl [c0_14, c0_15, c0_16, c0_17, c0_18, c0_19, c0_20] 7 (by kernel_rfl) rfl
  obtain ⟨m0_0_0, g0_0_0, f0_0_0⟩ := cells_sub Try.underlying24 f0_0 0 _ rfl [c0_0] 1 (by kernel_rfl) rfl
  obtain ⟨m0_0_1, g0_0_1, f0_0_1⟩ := cells_sub Try.underlying24 f0_0 1 _ rfl [c0_1] 1 (by kernel_rfl) rfl
  obtain ⟨m0_0_2, g0_0_2, f0_0_2⟩ := cells_sub Try.underlying24 f0_0 2 _ rfl [c0_2] 1 (by kernel_rfl) rfl
  obtain ⟨m0_0_3, g0_0_3, f0_0_3⟩ := cells_sub Try.underlying24 f0_0 3 _ rfl [c0_3] 1 (by kernel_rfl) rfl
  obtain ⟨m0_0_4, g0_0_4, f0_0_4⟩ := cells_sub Try.underlying24 f0_0 4 _ rfl [c0_4] 1 (by kernel_rfl) rfl
  obtain ⟨m0_0_5, g0_0_5, f0_0_5⟩ := cells_sub Try.underlying24 f0_0 5 _ rfl [c0_5] 1 (by kernel_rfl) rfl
  obtain ⟨m0_0_6, g0_0_6, f0_0_6⟩ := cells_sub Try.underlying24 f0_0 6 _ rfl [c0_6] 1 (by kernel_rfl) rfl
  obtain ⟨y0, K0, Q0⟩ := opens_int Try.underlying3 f0_0_0
  obtain rfl := one_int K0
  obtain ⟨y1, K1, Q1⟩ := opens_string Try.underlying9 f0_0_1
  obtain rfl := one_cell K1
  obtain ⟨y2, K2, Q2⟩ := opens_int Try.underlying3 f0_0_2
  obtain rfl := one_int K2
  obtain ⟨y3, K3, Q3⟩ := opens_int Try.underlying3 f0_0_3
  obtain rfl := one_int K3
  obtain ⟨y4, K4, Q4⟩ := opens_int Try.underlying3 f0_0_4
  obtain rfl := one_int K4
  obtain ⟨y5, K5, Q5⟩ := opens_int Try.underlying3 f0_0_5
  obtain rfl := one_int K5
  obtain ⟨y6, K6, Q6⟩ := opens_slice Try.underlying22 (by kernel_rfl) (d := kb) rfl (fun _ _ _ h_ => opens_byte Try.underlying5 h_) f0_0_6
  have R6 := one_slice K6
  obtain ⟨m0_1_0, g0_1_0, f0_1_0⟩ := cells_sub Try.underlying24 f0_1 0 _ rfl [c0_7] 1 (by kernel_rfl) rfl
  obtain ⟨m0_1_1, g0_1_1, f0_1_1⟩ := cells_sub Try.underlying24 f0_1 1 _ rfl [c0_8] 1 (by kernel_rfl) rfl
  obtain ⟨m0_1_2, g0_1_2, f0_1_2⟩ := cells_sub Try.underlying24 f0_1 2 _ rfl [c0_9] 1 (by kernel_rfl) rfl
  obtain ⟨m0_1_3, g0_1_3, f0_1_3⟩ := cells_sub Try.underlying24 f0_1 3 _ rfl [c0_10] 1 (by kernel_rfl) rfl
  obtain ⟨m0_1_4, g0_1_4, f0_1_4⟩ := cells_sub Try.underlying24 f0_1 4 _ rfl [c0_11] 1 (by kernel_rfl) rfl
  obtain ⟨m0_1_5, g0_1_5, f0_1_5⟩ := cells_sub Try.underlying24 f0_1 5 _ rfl [c0_12] 1 (by kernel_rfl) rfl
  obtain ⟨m0_1_6, g0_1_6, f0_1_6⟩ := cells_sub Try.underlying24 f0_1 6 _ rfl [c0_13] 1 (by kernel_rfl) rfl
  obtain ⟨y7, K7, Q7⟩ := opens_int Try.underlying3 f0_1_0
  obtain rfl := one_int K7
  obtain ⟨y8, K8, Q8⟩ := opens_string Try.underlying9 f0_1_1
  obtain rfl := one_cell K8
  obtain ⟨y9, K9, Q9⟩ := opens_int Try.underlying3 f0_1_2
  obtain rfl := one_int K9
  obtain ⟨y10, K10, Q10⟩ := opens_int Try.underlying3 f0_1_3
  obtain rfl := one_int K10
  obtain ⟨y11, K11, Q11⟩ := opens_int Try.underlying3 f0_1_4
  obtain rfl := one_int K11
  obtain ⟨y12, K12, Q12⟩ := opens_int Try.underlying3 f0_1_5
  obtain rfl := one_int K12
  obtain ⟨y13, K13, Q13⟩ := opens_slice Try.underlying22 (by kernel_rfl) (d := kb) rfl (fun _ _ _ h_ => opens_byte Try.underlying5 h_) f0_1_6
  have R13 := one_slice K13
  obtain ⟨m0_2_0, g0_2_0, f0_2_0⟩ := cells_sub Try.underlying24 f0_2 0 _ rfl [c0_14] 1 (by kernel_rfl) rfl
  obtain ⟨m0_2_1, g0_2_1, f0_2_1⟩ := cells_sub Try.underlying24 f0_2 1 _ rfl [c0_15] 1 (by kernel_rfl) rfl
  obtain ⟨m0_2_2, g0_2_2, f0_2_2⟩ := cells_sub Try.underlying24 f0_2 2 _ rfl [c0_16] 1 (by kernel_rfl) rfl
  obtain ⟨m0_2_3, g0_2_3, f0_2_3⟩ := cells_sub Try.underlying24 f0_2 3 _ rfl [c0_17] 1 (by kernel_rfl) rfl
  obtain ⟨m0_2_4, g0_2_4, f0_2_4⟩ := cells_sub Try.underlying24 f0_2 4 _ rfl [c0_18] 1 (by kernel_rfl) rfl
  obtain ⟨m0_2_5, g0_2_5, f0_2_5⟩ := cells_sub Try.underlying24 f0_2 5 _ rfl [c0_19] 1 (by kernel_rfl) rfl
  obtain ⟨m0_2_6, g0_2_6, f0_2_6⟩ := cells_sub Try.underlying24 f0_2 6 _ rfl [c0_20] 1 (by kernel_rfl) rfl
  obtain ⟨y14, K14, Q14⟩ := opens_int Try.underlying3 f0_2_0
  obtain rfl := one_int K14
  obtain ⟨y15, K15, Q15⟩ := opens_string Try.underlying9 f0_2_1
  obtain rfl := one_cell K15
  obtain ⟨y16, K16, Q16⟩ := opens_int Try.underlying3 f0_2_2
  obtain rfl := one_int K16
  obtain ⟨y17, K17, Q17⟩ := opens_int Try.underlying3 f0_2_3
  obtain rfl := one_int K17
  obtain ⟨y18, K18, Q18⟩ := opens_int Try.underlying3 f0_2_4
  obtain rfl := one_int K18
  obtain ⟨y19, K19, Q19⟩ := opens_int Try.underlying3 f0_2_5
  obtain rfl := one_int K19
  obtain ⟨y20, K20, Q20⟩ := opens_slice Try.underlying22 (by kernel_rfl) (d := kb) rfl (fun _ _ _ h_ => opens_byte Try.underlying5 h_) f0_2_6
  have R20 := one_slice K20
  have k1 := h1
  have lt1 : ∀ x ∈ p1, x.block < W.heap.size := by obtain ⟨m, hm⟩ := k1; exact DataW.trod_lt m _ _ _ hm
  obtain ⟨i1, rfl⟩ := okWide_string Try.underlying9 (hval 1 9 v1 rfl rfl)
  obtain ⟨m1, f1⟩ := h1
  obtain ⟨y21, K21, Q21⟩ := opens_string Try.underlying9 (cs := [.string i1]) f1
  obtain rfl := one_string K21
  have k2 := h2
  have lt2 : ∀ x ∈ p2, x.block < W.heap.size := by obtain ⟨m, hm⟩ := k2; exact DataW.trod_lt m _ _ _ hm
  obtain ⟨c2, rfl, s2⟩ := okWide_struct Try.underlying30 (hval 2 30 v2 rfl rfl)
  have z2 : Try.prog.cellsOf 30 = 5 := by kernel_rfl
  rw [z2] at s2
  obtain ⟨c2_0, c2_1, c2_2, c2_3, c2_4, rfl⟩ := arr5 s2
  obtain ⟨m2, f2⟩ := h2
  obtain ⟨m2_0, g2_0, f2_0⟩ := cells_sub Try.underlying30 f2 0 _ rfl [c2_0] 1 (by kernel_rfl) rfl
  obtain ⟨m2_1, g2_1, f2_1⟩ := cells_sub Try.underlying30 f2 1 _ rfl [c2_1, c2_2, c2_3, c2_4] 4 (by kernel_rfl) rfl
  obtain ⟨y22, K22, Q22⟩ := opens_int Try.underlying3 f2_0
  obtain rfl := one_int K22
  obtain ⟨m2_1_0, g2_1_0, f2_1_0⟩ := cells_sub Try.underlying28 f2_1 0 _ rfl [c2_1] 1 (by kernel_rfl) rfl
  obtain ⟨m2_1_1, g2_1_1, f2_1_1⟩ := cells_sub Try.underlying28 f2_1 1 _ rfl [c2_2] 1 (by kernel_rfl) rfl
  obtain ⟨m2_1_2, g2_1_2, f2_1_2⟩ := cells_sub Try.underlying28 f2_1 2 _ rfl [c2_3] 1 (by kernel_rfl) rfl
  obtain ⟨m2_1_3, g2_1_3, f2_1_3⟩ := cells_sub Try.underlying28 f2_1 3 _ rfl [c2_4] 1 (by kernel_rfl) rfl
  obtain ⟨y23, K23, Q23⟩ := opens_bool Try.underlying4 f2_1_0
  obtain rfl := one_bool K23
  obtain ⟨y24, K24, Q24⟩ := opens_int Try.underlying3 f2_1_1
  obtain rfl := one_int K24
  obtain ⟨y25, K25, Q25⟩ := opens_int Try.underlying3 f2_1_2
  obtain rfl := one_int K25
  obtain ⟨y26, K26, Q26⟩ := opens_int Try.underlying3 f2_1_3
  obtain rfl := one_int K26
  clear hA0 hval0
  refine (FixMains_walk W y0 Q0 y1 Q1 y2 Q2 y3 Q3 y4 Q4 y5 Q5 c0_6 y6 R6 y7 Q7 y8 Q8 y9 Q9 y10 Q10 y11 Q11 y12 Q12 c0_13 y13 R13 y14 Q14 y15 Q15 y16 Q16 y17 Q17 y18 Q18 y19 Q19 c0_20 y20 R20 i1 Q21 y22 Q22 y23 y24 Q24 y25 Q25 y26 Q26).mono fun e W' ⟨he, bel⟩ => ?_
  subst he
  exact ⟨_, rfl, _, _, _, [], _, [], hW', trodAll_mk1 (shut_bool Try.underlying4 _), (trodAll_cons_mk (Below.trod laidOut (by kernel_rfl) (of_decide_eq_true (by kernel_rfl)) k0 bel lt0) (trodAll_cons_mk (Below.trod laidOut (by kernel_rfl) (of_decide_eq_true (by kernel_rfl)) k1 bel lt1) (trodAll_cons_mk (Below.trod laidOut (by kernel_rfl) (of_decide_eq_true (by kernel_rfl)) k2 bel lt2) trodAll_mk0))), rfl, bel.frame _, fun h => by cases h⟩
theorem f_inPlace : (Rows.fixMainsRow.inPlace == Try.checked.prog.inPlace 4) = true := by kernel_rfl
theorem f_unfollowed : (Rows.fixMainsRow.unfollowed == Try.checked.prog.unfollowed 4) = true := by kernel_rfl
theorem f_recurses : (Rows.fixMainsRow.recurses == Try.checked.prog.recurses 4) = true := by kernel_rfl
theorem f_named : (Rows.fixMainsRow.named == Try.checked.prog.varsNamed 4) = true := by kernel_rfl
theorem joined : joinedFacts Try.pinned.checked.prog 4 Try.f4 Rows.fixMainsSpec Rows.fixMainsRow = true :=
  joined_of _ _ _ _ _ (by kernel_rfl) laidOut mapsRow (by kernel_rfl) (by kernel_rfl) rfl noStops rfl noStopKnobs f_inPlace f_unfollowed f_recurses f_named
    (by kernel_rfl) (by kernel_rfl) (by kernel_rfl) (by kernel_rfl) (by kernel_rfl) (by kernel_rfl) (by kernel_rfl) (by kernel_rfl) (by kernel_rfl)
    (by rw [show Try.pinned.checked.prog.plainKeys = true from plainK]; rfl) rfl heard mayEnter (by rw [show Try.pinned.checked.prog.liftsFinal = false from liftsFinal]; rfl) (by rw [show Try.pinned.checked.prog.make = some .cut from make_cut]; rfl)
    (by kernel_rfl) (by kernel_rfl) (by kernel_rfl) (by kernel_rfl)
theorem over : Rows.fixMainsRow.holds Try.pinned (OpenSpec.ofChange Rows.fixMainsSpec) :=
  OpenClaim.holds_of_wide 4 Try.f4 rfl rfl rfl rfl rfl rfl rfl ⟨rfl, rfl, rfl, rfl, rfl⟩ rfl rfl rfl rfl rfl (by kernel_rfl) Try.func4 joined
    (of_decide_eq_true (by kernel_rfl)) (by unfold Func.isWrapper; first | (rw [if_pos (by decide +kernel)]; kernel_rfl) | (rw [if_neg (by decide +kernel)]; exact ⟨rfl, rfl⟩))
    (fun os started H enc _ => lifted os started H enc)
theorem proved : Rows.FixMainsSaid := over
#print axioms proved
end Go.Proofs.Ytacbenjfiabegaa.fixMains
namespace Go.Proofs.Ytacbenjfiabegaa
/-- The row, under a short name, for the claim. -/
theorem fixMains_holds : Rows.FixMainsSaid := fixMains.proved
end Go.Proofs.Ytacbenjfiabegaa
