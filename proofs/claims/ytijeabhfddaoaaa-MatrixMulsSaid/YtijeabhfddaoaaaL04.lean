/- The document's example of the matrices. -/
import Derived.Test.YtijeabhfddaoaaaMo
import Derived.Test.YtijeabhfddaoaaaR04s
namespace Go.Proofs.Ytijeabhfddaoaaa
set_option linter.unusedVariables false
set_option linter.unusedSimpArgs false
open Go.RowKit Go.Proofs.YtijeabhfddaoaaaW.PrintWords Go.Proofs.Sh

theorem alive_gs : (F.gs 2 (F.ent [[1, 1], [0, 1]], F.one_) 2).map (fun q => F.mat 2 q.2) = some [[1, 1], [0, 1]] := by kernel_rfl
set_option maxRecDepth 100000 in
set_option maxHeartbeats 1600000 in
theorem alive04_c (w : World) :
   Calls Try.prog 102 #[] w fun e w' => e = .returned (.bool true) ∧ Below w.heap.size w w' := by
  have r0 := lit_b w [1, 1] #[.int .u8 1, .int .u8 1] 5 2 2 rfl rfl (by decide) (by decide)
  have r1 := lit_b (w.alloc (.cells #[.int .u8 1, .int .u8 1] 5)) [0, 1] #[.int .u8 0, .int .u8 1] 5 2 2 rfl rfl (by decide) (by decide)
  rw [World.size_alloc] at r1
  have rr := lit_bb2 _ _ _ _ _ 40 (r0.alloc _) r1
  rw [World.size_alloc, World.size_alloc] at rr
  have hB := below_alloc (below_alloc (below_alloc (Below.refl w.heap.size w) (.cells #[.int .u8 1, .int .u8 1] 5)) (.cells #[.int .u8 0, .int .u8 1] 5)) (.cells #[.slice (some ⟨w.heap.size, 0, none⟩) 2 2, .slice (some ⟨w.heap.size + 1, 0, none⟩) 2 2] 40)
  clear r0 r1
  go_enter Try.func102, Try.ntmps102
  go_wp2_with fail
  refine (new_x _).mono ?_
  rintro e w1 ⟨b, rfl, hF, h1⟩
  replace hB := bt_ hB h1
  replace rr := rr.below h1
  clear h1
  generalize ha : ([[1, 1], [0, 1]] : List (List F)) = a at *
  have hl : a.length = 2 := by rw [← ha]; rfl
  have hall : allW (a.length : Int) a = true := by rw [← ha]; rfl
  have hg : (F.gs a.length (F.ent a, F.one_) a.length).map (fun q => F.mat a.length q.2) = some a := by rw [← ha]; exact alive_gs
  rw [← hl] at rr
  have hinv := mInv_ok b _ a w1 hF rr (by omega) hall
  rw [hl] at rr hg hinv
  have hun := fun W => mUnit_c 3 (by decide) W
  replace hun := Lib.hid hun
  clear ha hall hl
  go_wp2_with fail
  refine hinv.mono ?_
  rintro e w2 ⟨hor, h2⟩
  rcases hor with ⟨hn, _⟩ | ⟨q, z, hq, rfl, hz⟩
  · rw [hn] at hg
    cases hg
  · rw [hq] at hg
    obtain hm : F.mat 2 q.2 = a := by simpa using hg
    rw [hm] at hz
    clear hg hm hq
    replace rr := rr.below h2
    replace hB := bt_ hB h2
    clear h2 hinv
    obtain ⟨Az, cz, rfl⟩ := rk_form hz
    go_wp2_with fail
    refine (rSameR_c _ _ _ _ _ rr hz).mono ?_
    rintro e w3 ⟨rfl, h3⟩
    rw [decide_eq_true (rfl : a = a)]
    replace hB := bt_ hB h3.below
    clear rr hz h3
    go_wp2_with fail
    refine (hun.out _).mono ?_
    rintro e w4 ⟨g, vs, rfl, hR, h4⟩
    replace hB := bt_ hB h4
    clear hR h4
    go_wp2
    go_ret
    exact ⟨rfl, hB⟩
end Go.Proofs.Ytijeabhfddaoaaa
