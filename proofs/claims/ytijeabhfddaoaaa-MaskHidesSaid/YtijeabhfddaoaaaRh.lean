/- The walks of rebuild.Blob and rebuild.Agree: refused. -/
import Derived.Test.YtijeabhfddaoaaaRg
namespace Go.Proofs.Ytijeabhfddaoaaa
set_option linter.unusedVariables false
open Go.RowKit Go.Proofs.YtijeabhfddaoaaaW.PrintWords Go.Proofs.Sh

set_option maxRecDepth 100000 in
set_option maxHeartbeats 1600000 in
theorem rbBlob_no (fv : Value) (p : Pl) (h : ¬ p.Ok) (n : Int) (v u : Value) (who : List Int) (sh : List (List F)) (w : World) (hv : Ri w v who) (hu : Rbb w u sh) :
   Calls Try.prog 148 #[fv, planV p, .int .i64 n, v, u] w fun e w' => e = .returned (.tuple #[.slice none 0 0, .int .i64 1]) ∧ Below w.heap.size w w' := by
  have HP := Blk.new w (planC p) 33
  have hB := below_alloc (Below.refl w.heap.size w) (.cells (planC p) 33)
  replace hv := hv.below hB
  replace hu := hu.below hB
  go_enter Try.func148, Try.ntmps148
  go_wp2_with fail
  refine (rbCheck_no p h n v u who sh _ hv hu).mono ?_
  rintro e w1 ⟨rfl, h1⟩
  go_wp2
  go_ret2
  exact ⟨rfl, bt_ hB h1⟩
set_option maxRecDepth 100000 in
set_option maxHeartbeats 1600000 in
theorem rbBlob_bad (fv : Value) (p : Pl) (h : p.Ok) (n : Int) (v u : Value) (who : List Int) (sh : List (List F)) (w : World) (hv : Ri w v who) (hu : Rbb w u sh) (hc : chE p n who sh ≠ 0) :
   Calls Try.prog 148 #[fv, planV p, .int .i64 n, v, u] w fun e w' => e = .returned (.tuple #[.slice none 0 0, .int .i64 (chE p n who sh)]) ∧ Below w.heap.size w w' := by
  have hck := fun W h1 h2 => Lib.hid (rbCheck_c p h n v u who sh W h1 h2)
  generalize chE p n who sh = x at *
  have t1 : (x != 0) = true := by simpa using hc
  clear hc
  have HP := Blk.new w (planC p) 33
  have hB := below_alloc (Below.refl w.heap.size w) (.cells (planC p) 33)
  replace hv := hv.below hB
  replace hu := hu.below hB
  go_enter Try.func148, Try.ntmps148
  go_wp2_with fail
  refine (hck _ hv hu).out.mono ?_
  rintro e w1 ⟨rfl, h1⟩
  go_wp2
  go_ret2
  exact ⟨rfl, bt_ hB h1⟩
set_option maxRecDepth 100000 in
set_option maxHeartbeats 1600000 in
theorem rbAgree_no (fv : Value) (p : Pl) (h : ¬ p.Ok) (n : Int) (v u : Value) (who : List Int) (sh : List (List F)) (w : World) (hv : Ri w v who) (hu : Rbb w u sh) :
   Calls Try.prog 149 #[fv, planV p, .int .i64 n, v, u] w fun e w' => e = .returned (.bool false) ∧ Below w.heap.size w w' := by
  have HP := Blk.new w (planC p) 33
  have hB := below_alloc (Below.refl w.heap.size w) (.cells (planC p) 33)
  replace hv := hv.below hB
  replace hu := hu.below hB
  go_enter Try.func149, Try.ntmps149
  go_wp2_with fail
  refine (rbCheck_no p h n v u who sh _ hv hu).mono ?_
  rintro e w1 ⟨rfl, h1⟩
  go_wp2
  go_ret
  exact ⟨rfl, bt_ hB h1⟩
set_option maxRecDepth 100000 in
set_option maxHeartbeats 1600000 in
theorem rbAgree_bad (fv : Value) (p : Pl) (h : p.Ok) (n : Int) (v u : Value) (who : List Int) (sh : List (List F)) (w : World) (hv : Ri w v who) (hu : Rbb w u sh) (hc : chE p n who sh ≠ 0) :
   Calls Try.prog 149 #[fv, planV p, .int .i64 n, v, u] w fun e w' => e = .returned (.bool false) ∧ Below w.heap.size w w' := by
  have hck := fun W h1 h2 => Lib.hid (rbCheck_c p h n v u who sh W h1 h2)
  generalize chE p n who sh = x at *
  have t1 : (x != 0) = true := by simpa using hc
  clear hc
  have HP := Blk.new w (planC p) 33
  have hB := below_alloc (Below.refl w.heap.size w) (.cells (planC p) 33)
  replace hv := hv.below hB
  replace hu := hu.below hB
  go_enter Try.func149, Try.ntmps149
  go_wp2_with fail
  refine (hck _ hv hu).out.mono ?_
  rintro e w1 ⟨rfl, h1⟩
  go_wp2
  go_ret
  exact ⟨rfl, bt_ hB h1⟩
end Go.Proofs.Ytijeabhfddaoaaa
