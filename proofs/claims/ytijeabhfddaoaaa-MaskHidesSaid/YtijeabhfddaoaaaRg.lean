/- The walk of rebuild.check. -/
import Derived.Test.YtijeabhfddaoaaaRe
import Derived.Test.YtijeabhfddaoaaaK5
namespace Go.Proofs.Ytijeabhfddaoaaa
set_option linter.unusedVariables false
open Go.RowKit Go.Proofs.YtijeabhfddaoaaaW.PrintWords Go.Proofs.Sh

/-- What is wrong with shares; 0: nothing. -/
def chE (p : Pl) (n : Int) (who : List Int) (sh : List (List F)) : Int :=
  fst7 0 (if 0 ≤ n ∧ n ≤ 240 then 0 else 2) (if who.any (badR p) = true then 2 else 0) (if (!decide who.Nodup) = true then 5 else 0) (if decide ((who.length : Int) < p.T + p.L) = true then 6 else 0)
    (if ((sh.length : Int) != (who.length : Int)) = true then 3 else 0) (if sh.any (bad3 (stripesOf p n)) = true then 3 else 0)
set_option maxRecDepth 100000 in
set_option maxHeartbeats 1600000 in
theorem rbCheck_no (p : Pl) (h : ¬ p.Ok) (n : Int) (v u : Value) (who : List Int) (sh : List (List F)) (w : World) (hv : Ri w v who) (hu : Rbb w u sh) :
   Calls Try.prog 198 #[planV p, .int .i64 n, v, u] w fun e w' => e = .returned (.int .i64 1) ∧ Below w.heap.size w w' := by
  obtain ⟨Av, cv, rfl⟩ := rk_form hv
  obtain ⟨Au, cu, rfl⟩ := rk_form hu
  obtain ⟨hX, hB, _⟩ := box4 w (planC p) 33 #[.int .i64 n] 3 #[.slice Av who.length cv] 36 #[.slice Au sh.length cu] 66
  obtain ⟨c0, c1, c2, c3, c4, c5⟩ := cells6 hX.k1
  have hn := hX.k2.one
  go_enter Try.func198, Try.ntmps198
  go_wp2_with fail
  refine (stripes_no p h n _).mono ?_
  rintro e w1 ⟨rfl, h1⟩
  replace hX := hX.below h1
  replace hB := bt_ hB h1
  clear h1 c0 c1 c2 c3 c4 c5 hn
  go_wp2_with fail
  refine (bFirst_c 1 0 0 0 0 0 0 _ _ _ _ _ _ _ _ _ _ _ _ _ _ (Blk.new' _ _ _ (World.size_alloc _ _)) (fun wr hr => bc1_no p h _ wr (((hX.k1.alloc _).alloc _).below hr)) (fun e => by cases e) (fun e => by cases e) (fun e => by cases e) (fun e => by cases e) (fun e => by cases e) (fun e => by cases e)).mono ?_
  rintro e w2 ⟨rfl, h2⟩
  rw [show fst7 1 0 0 0 0 0 0 = 1 from by decide]
  go_wp2
  go_ret
  exact ⟨rfl, bt_ (below_alloc (below_alloc hB _) _) h2⟩
set_option maxRecDepth 100000 in
set_option maxHeartbeats 1600000 in
theorem rbCheck_c (p : Pl) (h : p.Ok) (n : Int) (v u : Value) (who : List Int) (sh : List (List F)) (w : World) (hv : Ri w v who) (hu : Rbb w u sh) :
   Calls Try.prog 198 #[planV p, .int .i64 n, v, u] w fun e w' => e = .returned (.int .i64 (chE p n who sh)) ∧ Below w.heap.size w w' := by
  obtain ⟨Av, cv, rfl⟩ := rk_form hv
  obtain ⟨Au, cu, rfl⟩ := rk_form hu
  obtain ⟨hX, hB, _⟩ := box4 w (planC p) 33 #[.int .i64 n] 3 #[.slice Av who.length cv] 36 #[.slice Au sh.length cu] 66
  obtain ⟨c0, c1, c2, c3, c4, c5⟩ := cells6 hX.k1
  have hn := hX.k2.one
  obtain ⟨x2, ex2⟩ : ∃ x : Int, x = (if 0 ≤ n ∧ n ≤ 240 then 0 else 2) := ⟨_, rfl⟩
  obtain ⟨x3, ex3⟩ : ∃ x : Int, x = (if who.any (badR p) = true then 2 else 0) := ⟨_, rfl⟩
  obtain ⟨x4, ex4⟩ : ∃ x : Int, x = (if (!decide who.Nodup) = true then 5 else 0) := ⟨_, rfl⟩
  obtain ⟨x5, ex5⟩ : ∃ x : Int, x = (if decide ((who.length : Int) < p.T + p.L) = true then 6 else 0) := ⟨_, rfl⟩
  obtain ⟨x6, ex6⟩ : ∃ x : Int, x = (if ((sh.length : Int) != (who.length : Int)) = true then 3 else 0) := ⟨_, rfl⟩
  obtain ⟨x7, ex7⟩ : ∃ x : Int, x = (if sh.any (bad3 (stripesOf p n)) = true then 3 else 0) := ⟨_, rfl⟩
  have hE : Hid (chE p n who sh = fst7 0 x2 x3 x4 x5 x6 x7) := Lib.hid (by unfold chE; rw [ex2, ex3, ex4, ex5, ex6, ex7])
  replace ex2 := Lib.hid ex2
  replace ex3 := Lib.hid ex3
  replace ex4 := Lib.hid ex4
  replace ex5 := Lib.hid ex5
  replace ex6 := Lib.hid ex6
  replace ex7 := Lib.hid ex7
  go_enter Try.func198, Try.ntmps198
  go_wp2_with fail
  refine (stripes_yes p h n _).mono ?_
  rintro e w1 ⟨rfl, h1⟩
  replace hX := hX.below h1
  replace hB := bt_ hB h1
  clear h1 c0 c1 c2 c3 c4 c5 hn
  generalize hs : stripesOf p n = s at *
  replace hs := Lib.hid hs
  go_wp2_with fail
  have hvw := hv.below hB
  have huw := hu.below hB
  refine (bFirst_c 0 x2 x3 x4 x5 x6 x7 _ _ _ _ _ _ _ _ _ _ _ _ _ _ (Blk.new' _ _ _ (World.size_alloc _ _)) (fun wr hr => bc1_yes p h _ wr (((hX.k1.alloc _).alloc _).below hr)) (fun _ wr hr => bc2_c n x2 ex2 _ wr (((hX.k2.alloc _).alloc _).below hr))
    (fun _ wr hr => bc3_c p h _ _ _ who wr (((hX.k3.alloc _).alloc _).below hr) (((hX.k1.alloc _).alloc _).below hr) (((hvw.alloc _).alloc _).below hr) x3 ex3) (fun _ wr hr => bc4_c _ _ who wr (((hX.k3.alloc _).alloc _).below hr) (((hvw.alloc _).alloc _).below hr) x4 ex4) (fun _ wr hr => bc5_c p h _ _ _ who wr (((hX.k3.alloc _).alloc _).below hr) (((hX.k1.alloc _).alloc _).below hr) (((hvw.alloc _).alloc _).below hr) x5 ex5)
    (fun _ wr hr => bc6_c _ _ _ _ sh who wr (((hX.k4.alloc _).alloc _).below hr) (((hX.k3.alloc _).alloc _).below hr) (((huw.alloc _).alloc _).below hr) (((hvw.alloc _).alloc _).below hr) x6 ex6) (fun _ wr hr => bc7_c _ _ s _ sh wr (((hX.k4.alloc _).alloc _).below hr) ((Blk.new' w1 _ _ rfl).alloc _ |>.below hr) (((huw.alloc _).alloc _).below hr) x7 ex7)).mono ?_
  rintro e w2 ⟨rfl, h2⟩
  rw [← hE.out]
  go_wp2
  go_ret
  exact ⟨rfl, bt_ (below_alloc (below_alloc hB _) _) h2⟩
end Go.Proofs.Ytijeabhfddaoaaa
