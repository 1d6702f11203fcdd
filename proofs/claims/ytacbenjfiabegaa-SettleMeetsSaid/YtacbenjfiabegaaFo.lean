/- The walks of fix.Of, of the laws' helpers as and far. -/
import Derived.Test.YtacbenjfiabegaaFz
import Derived.Laws.CopyOwn
namespace Go.Proofs.Ytacbenjfiabegaa
set_option linter.unusedVariables false
set_option linter.unusedSimpArgs false
open Go.RowKit Go.Proofs.YtacbenjfiabegaaW.PrintWords Go.Proofs.Sh

/-- What a main record says that counts. -/
def ofM (r : Rc) : Vl × Bool := if r.k = 2 ∨ r.k = 3 then (⟨true, r.a, r.e, r.z⟩, true) else if r.k = 4 then (⟨false, 0, 0, 0⟩, true) else (⟨false, 0, 0, 0⟩, false)
set_option maxRecDepth 100000 in
set_option maxHeartbeats 1600000 in
theorem of_c (r : Rc) (u : Value) (w : World) :
   Calls Try.prog 15 #[recV r u] w fun e w' => e = .returned (.tuple #[valV (ofM r).1, .bool (ofM r).2]) ∧ Below w.heap.size w w' := by
  have hm := Lib.hid (show ofM r = if r.k = 2 ∨ r.k = 3 then (⟨true, r.a, r.e, r.z⟩, true) else if r.k = 4 then (⟨false, 0, 0, 0⟩, true) else (⟨false, 0, 0, 0⟩, false) from rfl)
  have hB := below_alloc (Below.refl w.heap.size w) (.cells (recC r u) 24)
  have hz : (w.alloc (.cells (recC r u) 24)).heap.size = w.heap.size + 1 := World.size_alloc _ _
  have c0 : (w.alloc (.cells (recC r u) 24)).cell? ⟨w.heap.size, 0, none⟩ = some (.int .i64 r.k) := (Blk.new w (recC r u) 24).cell 0 _ rfl
  have c2 : (w.alloc (.cells (recC r u) 24)).cell? ⟨w.heap.size, 2, none⟩ = some (.int .i64 r.a) := (Blk.new w (recC r u) 24).cell 2 _ rfl
  have c3 : (w.alloc (.cells (recC r u) 24)).cell? ⟨w.heap.size, 3, none⟩ = some (.int .i64 r.e) := (Blk.new w (recC r u) 24).cell 3 _ rfl
  have c5 : (w.alloc (.cells (recC r u) 24)).cell? ⟨w.heap.size, 5, none⟩ = some (.int .i64 r.z) := (Blk.new w (recC r u) 24).cell 5 _ rfl
  go_enter Try.func15, Try.ntmps15
  go_upto_region 1 with fail
  generalize (w.alloc (.cells (recC r u) 24)) = w0 at *
  have hb := below_alloc (Below.refl w0.heap.size w0) (.cells #[.bool false, .int .i64 0, .int .i64 0, .int .i64 0] 33)
  have c0 := pw_cell_below hb c0
  have c2 := pw_cell_below hb c2
  have c3 := pw_cell_below hb c3
  have c5 := pw_cell_below hb c5
  have fin : ∀ x, Blk (w0.alloc (.cells x 33)) (w.heap.size + 1) x 33 := fun x => Blk.new' w0 x _ hz
  have hBx : ∀ o, Below w.heap.size w (w0.alloc o) := fun o => below_alloc hB o
  replace fin := Lib.hid fin
  replace hBx := Lib.hid hBx
  generalize hk : r.k = k at *
  by_cases h2 : k = 2
  · rw [if_pos (.inl h2)] at hm
    subst h2
    go_wp2
    refine bodyPost_ret (results_ct rfl _ _ (w.heap.size + 1) 33 #[.bool true, .int .i64 r.a, .int .i64 r.e, .int .i64 r.z] (0, 0) _ rfl (fin.out _) Try.underlying33 rfl (by kernel_rfl)) rfl ?_
    rw [hm.out]
    exact ⟨rfl, hBx.out _⟩
  · by_cases h3 : k = 3
    · rw [if_pos (.inr h3)] at hm
      subst h3
      go_wp2
      refine bodyPost_ret (results_ct rfl _ _ (w.heap.size + 1) 33 #[.bool true, .int .i64 r.a, .int .i64 r.e, .int .i64 r.z] (0, 0) _ rfl (fin.out _) Try.underlying33 rfl (by kernel_rfl)) rfl ?_
      rw [hm.out]
      exact ⟨rfl, hBx.out _⟩
    · rw [if_neg (by omega)] at hm
      by_cases h4 : k = 4
      · rw [if_pos h4] at hm
        subst h4
        go_wp2
        refine bodyPost_ret (results_ct rfl _ _ (w.heap.size + 1) 33 #[.bool false, .int .i64 0, .int .i64 0, .int .i64 0] (0, 0) _ rfl (fin.out _) Try.underlying33 rfl (by kernel_rfl)) rfl ?_
        rw [hm.out]
        exact ⟨rfl, hBx.out _⟩
      · rw [if_neg h4] at hm
        have t2 : (k == 2) = false := beq_eq_false_iff_ne.2 h2
        have t3 : (k == 3) = false := beq_eq_false_iff_ne.2 h3
        have t4 : (k == 4) = false := beq_eq_false_iff_ne.2 h4
        go_wp2
        refine bodyPost_ret (results_ct rfl _ _ (w.heap.size + 1) 33 #[.bool false, .int .i64 0, .int .i64 0, .int .i64 0] (0, 0) _ rfl (fin.out _) Try.underlying33 rfl (by kernel_rfl)) rfl ?_
        rw [hm.out]
        exact ⟨rfl, hBx.out _⟩
set_option maxRecDepth 100000 in
set_option maxHeartbeats 1600000 in
theorem as_c (M S D : Rc) (A1 A2 A3 : Option Addr) (n1 n2 n3 c1 c2 c3 : Nat) (w : World) :
   Calls Try.prog 14 #[heldV M S D (.slice A1 n1 c1) (.slice A2 n2 c2) (.slice A3 n3 c3)] w fun e w' => e = .returned (heldV M S D (.slice A1 n1 c1) (.slice A2 n2 c2) (.slice A3 n3 c3)) ∧ Below w.heap.size w w' := by
  have hH := (Blk.new w (heldC M S D (.slice A1 n1 c1) (.slice A2 n2 c2) (.slice A3 n3 c3)) 26).alloc (.cells #[.int .i64 0, .string { data := #[] }, .int .i64 0, .int .i64 0, .int .i64 0, .int .i64 0, .slice none 0 0, .int .i64 0, .string { data := #[] }, .int .i64 0, .int .i64 0, .int .i64 0, .int .i64 0, .slice none 0 0, .int .i64 0, .string { data := #[] }, .int .i64 0, .int .i64 0, .int .i64 0, .int .i64 0, .slice none 0 0] 35)
  have h2 := Blk.new' (w.alloc (.cells (heldC M S D (.slice A1 n1 c1) (.slice A2 n2 c2) (.slice A3 n3 c3)) 26)) #[.int .i64 0, .string { data := #[] }, .int .i64 0, .int .i64 0, .int .i64 0, .int .i64 0, .slice none 0 0, .int .i64 0, .string { data := #[] }, .int .i64 0, .int .i64 0, .int .i64 0, .int .i64 0, .slice none 0 0, .int .i64 0, .string { data := #[] }, .int .i64 0, .int .i64 0, .int .i64 0, .int .i64 0, .slice none 0 0] 35 (n := w.heap.size + 1) (World.size_alloc _ _)
  have hB := below_alloc (below_alloc (Below.refl w.heap.size w) (.cells (heldC M S D (.slice A1 n1 c1) (.slice A2 n2 c2) (.slice A3 n3 c3)) 26)) (.cells #[.int .i64 0, .string { data := #[] }, .int .i64 0, .int .i64 0, .int .i64 0, .int .i64 0, .slice none 0 0, .int .i64 0, .string { data := #[] }, .int .i64 0, .int .i64 0, .int .i64 0, .int .i64 0, .slice none 0 0, .int .i64 0, .string { data := #[] }, .int .i64 0, .int .i64 0, .int .i64 0, .int .i64 0, .slice none 0 0] 35)
  go_enter Try.func14, Try.ntmps14
  go_upto_region 1 with fail
  generalize ((w.alloc (.cells (heldC M S D (.slice A1 n1 c1) (.slice A2 n2 c2) (.slice A3 n3 c3)) 26)).alloc (.cells #[.int .i64 0, .string { data := #[] }, .int .i64 0, .int .i64 0, .int .i64 0, .int .i64 0, .slice none 0 0, .int .i64 0, .string { data := #[] }, .int .i64 0, .int .i64 0, .int .i64 0, .int .i64 0, .slice none 0 0, .int .i64 0, .string { data := #[] }, .int .i64 0, .int .i64 0, .int .i64 0, .int .i64 0, .slice none 0 0] 35)) = w9 at *
  obtain ⟨e0, e1, e2, e3, e4, e5, e6, e7, e8, e9, e10, e11, e12, e13, e14, e15, e16, e17, e18, e19, e20⟩ := cells21 hH
  go_wp2_with (first
    | (refine wpList_store_row rfl 35 (.tmp 2) (.tmp 9) rfl (w.heap.size + 1) (heldC M S D (.slice A1 n1 c1) (.slice A2 n2 c2) (.slice A3 n3 c3)) rfl rfl 35 #[.int .i64 0, .string { data := #[] }, .int .i64 0, .int .i64 0, .int .i64 0, .int .i64 0, .slice none 0 0, .int .i64 0, .string { data := #[] }, .int .i64 0, .int .i64 0, .int .i64 0, .int .i64 0, .slice none 0 0, .int .i64 0, .string { data := #[] }, .int .i64 0, .int .i64 0, .int .i64 0, .int .i64 0, .slice none 0 0] h2 (by kernel_rfl) rfl (by simp [Value.oneCell']) ?_)
    | fail)
  refine bodyPost_ret (results_cell_row rfl _ _ (w.heap.size + 1) 35 (heldC M S D (.slice A1 n1 c1) (.slice A2 n2 c2) (.slice A3 n3 c3)) (0, 0) _ rfl (setRow_heap _ _ _ _ _ _ h2) Try.underlying35 rfl (by kernel_rfl)) rfl ?_
  exact ⟨rfl, below_setRow hB (by omega) _⟩
def farH (M S D : Rc) (nm : ByteArray) : Bool := farR M || farR S || farR D || decide (40 < nm.size)
set_option maxRecDepth 100000 in
set_option maxHeartbeats 1600000 in
theorem far29_c (M S D : Rc) (A1 A2 A3 : Option Addr) (c1 c2 c3 : Nat) (nm : ByteArray) (w : World) :
   Calls Try.prog 11 #[heldV M S D (.slice A1 M.sh.length c1) (.slice A2 S.sh.length c2) (.slice A3 D.sh.length c3), .string nm] w fun e w' => e = .returned (.bool (farH M S D nm)) ∧ Below w.heap.size w w' := by
  have hf := Lib.hid (show farH M S D nm = (farR M || farR S || farR D || decide (40 < nm.size)) from rfl)
  have hH := Blk.new w (heldC M S D (.slice A1 M.sh.length c1) (.slice A2 S.sh.length c2) (.slice A3 D.sh.length c3)) 26
  have hB := below_alloc (Below.refl w.heap.size w) (.cells (heldC M S D (.slice A1 M.sh.length c1) (.slice A2 S.sh.length c2) (.slice A3 D.sh.length c3)) 26)
  have hM := Lib.hid (fun W => far20_c M A1 c1 W)
  have hS := Lib.hid (fun W => far20_c S A2 c2 W)
  have hD := Lib.hid (fun W => far20_c D A3 c3 W)
  go_enter Try.func11, Try.ntmps11
  go_upto_region 1 with fail
  generalize (w.alloc (.cells (heldC M S D (.slice A1 M.sh.length c1) (.slice A2 S.sh.length c2) (.slice A3 D.sh.length c3)) 26)) = w0 at *
  obtain ⟨e0, e1, e2, e3, e4, e5, e6, e7, e8, e9, e10, e11, e12, e13, e14, e15, e16, e17, e18, e19, e20⟩ := cells21 hH
  go_wp2_with fail
  refine (hM.out _).mono ?_
  rintro e w1 ⟨rfl, h1⟩
  clear e0 e1 e2 e3 e4 e5 e6
  have e7 := pw_cell_below h1 e7
  have e8 := pw_cell_below h1 e8
  have e9 := pw_cell_below h1 e9
  have e10 := pw_cell_below h1 e10
  have e11 := pw_cell_below h1 e11
  have e12 := pw_cell_below h1 e12
  have e13 := pw_cell_below h1 e13
  have hH := hH.below h1
  replace hB := bt_ hB h1
  clear h1
  generalize farR M = bM at *
  cases bM with
  | true =>
    rw [Bool.true_or, Bool.true_or, Bool.true_or] at hf
    go_wp2
    go_ret
    rw [hf.out]
    exact ⟨rfl, hB⟩
  | false =>
    go_wp2_with fail
    refine (hS.out _).mono ?_
    rintro e w2 ⟨rfl, h1⟩
    clear e7 e8 e9 e10 e11 e12 e13 e14 e15 e16 e17 e18 e19 e20
    have hH := hH.below h1
    obtain ⟨_, _, _, _, _, _, _, _, _, _, _, _, _, _, e14, e15, e16, e17, e18, e19, e20⟩ := cells21 hH
    replace hB := bt_ hB h1
    clear h1
    generalize farR S = bS at *
    cases bS with
    | true =>
      rw [Bool.false_or, Bool.true_or, Bool.true_or] at hf
      go_wp2
      go_ret
      rw [hf.out]
      exact ⟨rfl, hB⟩
    | false =>
      go_wp2_with fail
      refine (hD.out _).mono ?_
      rintro e w3 ⟨rfl, h1⟩
      clear e14 e15 e16 e17 e18 e19 e20
      replace hB := bt_ hB h1
      clear h1
      generalize farR D = bD at *
      cases bD with
      | true =>
        rw [Bool.false_or, Bool.false_or, Bool.true_or] at hf
        go_wp2
        go_ret
        rw [hf.out]
        exact ⟨rfl, hB⟩
      | false =>
        rw [Bool.false_or, Bool.false_or, Bool.false_or] at hf
        go_wp2
        go_ret
        rw [hf.out]
        exact ⟨by simp; omega, hB⟩
end Go.Proofs.Ytacbenjfiabegaa
