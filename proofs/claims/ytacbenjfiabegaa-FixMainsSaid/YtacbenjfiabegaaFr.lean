/- The walks of the reference's Of and Left, and of fix.Has. -/
import Derived.Test.YtacbenjfiabegaaFp
namespace Go.Proofs.Ytacbenjfiabegaa
set_option linter.unusedVariables false
set_option linter.unusedSimpArgs false
open Go.RowKit Go.Proofs.YtacbenjfiabegaaW.PrintWords Go.Proofs.Sh

set_option maxRecDepth 100000 in
set_option maxHeartbeats 1600000 in
theorem rLeft_c (M S D : Rc) (u s x : Value) (w : World) :
   Calls Try.prog 21 #[heldV M S D u s x] w fun e w' => e = .returned (.bool ((S.k == 1) || (D.k == 5))) ∧ Below w.heap.size w w' := by
  have hH := Blk.new w (heldC M S D u s x) 26
  have hB := below_alloc (Below.refl w.heap.size w) (.cells (heldC M S D u s x) 26)
  go_enter Try.func21, Try.ntmps21
  go_upto_region 1 with fail
  generalize (w.alloc (.cells (heldC M S D u s x) 26)) = w0 at *
  have e7 : w0.cell? ⟨w.heap.size, 7, none⟩ = some (.int .i64 S.k) := hH.cell 7 _ rfl
  have e14 : w0.cell? ⟨w.heap.size, 14, none⟩ = some (.int .i64 D.k) := hH.cell 14 _ rfl
  clear hH
  generalize hb1 : (S.k == 1) = b1 at *
  generalize hb2 : (D.k == 5) = b2 at *
  cases b1 <;> cases b2
  all_goals
    go_wp2
    go_ret
    exact ⟨by rw [hb1, hb2]; rfl, hB⟩
set_option maxRecDepth 100000 in
set_option maxHeartbeats 1600000 in
theorem has_c (M S D : Rc) (u s x : Value) (v : Vl) (w : World) (hu : Rb w u M.sh) (hs : Rb w s S.sh) (hx : Rb w x D.sh) (b1 : M.sh.length ≤ 1000) (b2 : D.sh.length ≤ 1000) :
   Calls Try.prog 19 #[heldV M S D u s x, valV v] w fun e w' => e = .returned (.bool (shareM M S D v).1) ∧ Below w.heap.size w w' := by
  obtain ⟨Au, cu, rfl⟩ := rk_form hu
  obtain ⟨As, cs, rfl⟩ := rk_form hs
  obtain ⟨Ax, cx, rfl⟩ := rk_form hx
  have hH := (Blk.new w (heldC M S D (.slice Au M.sh.length cu) (.slice As S.sh.length cs) (.slice Ax D.sh.length cx)) 35).alloc (.cells (valC v) 33)
  have hV := Blk.new' (w.alloc (.cells (heldC M S D (.slice Au M.sh.length cu) (.slice As S.sh.length cs) (.slice Ax D.sh.length cx)) 35)) (valC v) 33 (n := w.heap.size + 1) (World.size_alloc _ _)
  have hB := below_alloc (below_alloc (Below.refl w.heap.size w) (.cells (heldC M S D (.slice Au M.sh.length cu) (.slice As S.sh.length cs) (.slice Ax D.sh.length cx)) 35)) (.cells (valC v) 33)
  replace hu := hu.below hB
  replace hs := hs.below hB
  replace hx := hx.below hB
  go_enter Try.func19, Try.ntmps19
  go_upto_region 1 with fail
  generalize ((w.alloc (.cells (heldC M S D (.slice Au M.sh.length cu) (.slice As S.sh.length cs) (.slice Ax D.sh.length cx)) 35)).alloc (.cells (valC v) 33)) = w0 at *
  have hsc := Lib.hid (share_c M S D _ _ _ v w0 hu hs hx b1 b2)
  go_wp2_with (first
    | ((with_reducible refine gate_dst (N := 9) rfl ?_); refine wpList_load_row rfl 35 (.tmp 2) rfl w.heap.size rfl 35 (heldC M S D (.slice Au M.sh.length cu) (.slice As S.sh.length cs) (.slice Ax D.sh.length cx)) (0, 0) _ hH Try.underlying35 rfl (by kernel_rfl) ?_)
    | ((with_reducible refine gate_dst (N := 10) rfl ?_); refine wpList_load_row rfl 33 (.tmp 3) rfl (w.heap.size + 1) rfl 33 (valC v) (0, 0) _ hV Try.underlying33 rfl (by kernel_rfl) ?_)
    | fail)
  refine hsc.out.mono ?_
  rintro e w3 ⟨sv, rfl, hsv, hb3⟩
  replace hB := bt_ hB hb3
  obtain ⟨Av, cv, rfl⟩ := rk_form hsv
  clear hsc hb3 hH hV hu hs hx hsv
  generalize hq : shareM M S D v = q at *
  obtain ⟨ok, z, l⟩ := q
  replace hq := Lib.hid hq
  go_wp2
  go_ret
  rw [hq.out]
  exact ⟨rfl, hB⟩
set_option maxRecDepth 100000 in
set_option maxHeartbeats 1600000 in
theorem rOf_c (r : Rc) (u : Value) (w : World) :
   Calls Try.prog 18 #[recV r u] w fun e w' => e = .returned (.tuple #[valV (ofM r).1, .bool (ofM r).2]) ∧ Below w.heap.size w w' := by
  have hm := Lib.hid (show ofM r = if r.k = 2 ∨ r.k = 3 then (⟨true, r.a, r.e, r.z⟩, true) else if r.k = 4 then (⟨false, 0, 0, 0⟩, true) else (⟨false, 0, 0, 0⟩, false) from rfl)
  have hB := below_alloc (Below.refl w.heap.size w) (.cells (recC r u) 24)
  have hz : (w.alloc (.cells (recC r u) 24)).heap.size = w.heap.size + 1 := World.size_alloc _ _
  have c0 : (w.alloc (.cells (recC r u) 24)).cell? ⟨w.heap.size, 0, none⟩ = some (.int .i64 r.k) := (Blk.new w (recC r u) 24).cell 0 _ rfl
  have c2 : (w.alloc (.cells (recC r u) 24)).cell? ⟨w.heap.size, 2, none⟩ = some (.int .i64 r.a) := (Blk.new w (recC r u) 24).cell 2 _ rfl
  have c3 : (w.alloc (.cells (recC r u) 24)).cell? ⟨w.heap.size, 3, none⟩ = some (.int .i64 r.e) := (Blk.new w (recC r u) 24).cell 3 _ rfl
  have c5 : (w.alloc (.cells (recC r u) 24)).cell? ⟨w.heap.size, 5, none⟩ = some (.int .i64 r.z) := (Blk.new w (recC r u) 24).cell 5 _ rfl
  go_enter Try.func18, Try.ntmps18
  go_upto_region 1 with fail
  generalize (w.alloc (.cells (recC r u) 24)) = w0 at *
  have hb := below_alloc (Below.refl w0.heap.size w0) (.cells #[.bool false, .int .i64 0, .int .i64 0, .int .i64 0] 28)
  have c0 := pw_cell_below hb c0
  have c2 := pw_cell_below hb c2
  have c3 := pw_cell_below hb c3
  have c5 := pw_cell_below hb c5
  have fin : ∀ x, Blk (w0.alloc (.cells x 28)) (w.heap.size + 1) x 28 := fun x => Blk.new' w0 x _ hz
  have hBx : ∀ o, Below w.heap.size w (w0.alloc o) := fun o => below_alloc hB o
  replace fin := Lib.hid fin
  replace hBx := Lib.hid hBx
  generalize hk : r.k = k at *
  by_cases h2 : k = 2
  · rw [if_pos (.inl h2)] at hm
    subst h2
    go_wp2
    refine bodyPost_ret (results_ct rfl _ _ (w.heap.size + 1) 28 #[.bool true, .int .i64 r.a, .int .i64 r.e, .int .i64 r.z] (0, 0) _ rfl (fin.out _) Try.underlying28 rfl (by kernel_rfl)) rfl ?_
    rw [hm.out]
    exact ⟨rfl, hBx.out _⟩
  · by_cases h3 : k = 3
    · rw [if_pos (.inr h3)] at hm
      subst h3
      go_wp2
      refine bodyPost_ret (results_ct rfl _ _ (w.heap.size + 1) 28 #[.bool true, .int .i64 r.a, .int .i64 r.e, .int .i64 r.z] (0, 0) _ rfl (fin.out _) Try.underlying28 rfl (by kernel_rfl)) rfl ?_
      rw [hm.out]
      exact ⟨rfl, hBx.out _⟩
    · rw [if_neg (by omega)] at hm
      by_cases h4 : k = 4
      · rw [if_pos h4] at hm
        subst h4
        go_wp2_with fail
        go_region_held3 (fun w' => w'.cell? ⟨w.heap.size, 0, none⟩ = some (.int .i64 4))
          (go_keep)
          (fail)
        all_goals
          go_wp2
          refine bodyPost_ret (results_ct rfl _ _ (w.heap.size + 1) 28 #[.bool false, .int .i64 0, .int .i64 0, .int .i64 0] (0, 0) _ rfl ?_ Try.underlying28 rfl (by kernel_rfl)) rfl ?_
          · exact Blk.below (fin.out _) (below_drew (Below.refl _ _))
          · rw [hm.out]
            exact ⟨rfl, below_drew (hBx.out _)⟩
      · rw [if_neg h4] at hm
        have t2 : (k == 2) = false := beq_eq_false_iff_ne.2 h2
        have t3 : (k == 3) = false := beq_eq_false_iff_ne.2 h3
        have t4 : (k == 4) = false := beq_eq_false_iff_ne.2 h4
        go_wp2_with fail
        go_region_held3 (fun w' => w'.cell? ⟨w.heap.size, 0, none⟩ = some (.int .i64 k))
          (go_keep)
          (fail)
        all_goals
          go_wp2
          refine bodyPost_ret (results_ct rfl _ _ (w.heap.size + 1) 28 #[.bool false, .int .i64 0, .int .i64 0, .int .i64 0] (0, 0) _ rfl ?_ Try.underlying28 rfl (by kernel_rfl)) rfl ?_
          · exact Blk.below (fin.out _) (below_drew (Below.refl _ _))
          · rw [hm.out]
            exact ⟨rfl, below_drew (hBx.out _)⟩
end Go.Proofs.Ytacbenjfiabegaa
