/- The walk of rebuild.first at the list of the check. -/
import Derived.Test.YtijeabhfddaoaaaRd
namespace Go.Proofs.Ytijeabhfddaoaaa
set_option linter.unusedVariables false
set_option linter.unusedSimpArgs false
open Go.RowKit Go.Proofs.YtijeabhfddaoaaaW.PrintWords Go.Proofs.Sh

def fst7 (x1 x2 x3 x4 x5 x6 x7 : Int) : Int := if x1 ≠ 0 then x1 else if x2 ≠ 0 then x2 else if x3 ≠ 0 then x3 else if x4 ≠ 0 then x4 else if x5 ≠ 0 then x5 else if x6 ≠ 0 then x6 else x7
set_option maxRecDepth 100000 in
set_option maxHeartbeats 3200000 in
theorem bFirst_c (x1 x2 x3 x4 x5 x6 x7 : Int) (u1a u2a u3a u3b u4a u5a u5b u6a u6b u7a u7b : Value) (T : TypeId) (bl : Nat) (w : World) (HL : Blk w bl #[.func (.func 218) #[] #[u1a], .func (.func 220) #[] #[u2a], .func (.func 221) #[] #[u3a, u3b], .func (.func 223) #[] #[u4a], .func (.func 225) #[] #[u5a, u5b], .func (.func 226) #[] #[u6a, u6b], .func (.func 227) #[] #[u7a, u7b]] T)
    (h1 : ∀ wr, Below w.heap.size w wr → Calls Try.prog 218 #[u1a] wr fun e w' => e = .returned (.int .i64 x1) ∧ Below wr.heap.size wr w')
    (h2 : x1 = 0 → ∀ wr, Below w.heap.size w wr → Calls Try.prog 220 #[u2a] wr fun e w' => e = .returned (.int .i64 x2) ∧ Below wr.heap.size wr w')
    (h3 : x1 = 0 → ∀ wr, Below w.heap.size w wr → Calls Try.prog 221 #[u3a, u3b] wr fun e w' => e = .returned (.int .i64 x3) ∧ Below wr.heap.size wr w')
    (h4 : x1 = 0 → ∀ wr, Below w.heap.size w wr → Calls Try.prog 223 #[u4a] wr fun e w' => e = .returned (.int .i64 x4) ∧ Below wr.heap.size wr w')
    (h5 : x1 = 0 → ∀ wr, Below w.heap.size w wr → Calls Try.prog 225 #[u5a, u5b] wr fun e w' => e = .returned (.int .i64 x5) ∧ Below wr.heap.size wr w')
    (h6 : x1 = 0 → ∀ wr, Below w.heap.size w wr → Calls Try.prog 226 #[u6a, u6b] wr fun e w' => e = .returned (.int .i64 x6) ∧ Below wr.heap.size wr w')
    (h7 : x1 = 0 → ∀ wr, Below w.heap.size w wr → Calls Try.prog 227 #[u7a, u7b] wr fun e w' => e = .returned (.int .i64 x7) ∧ Below wr.heap.size wr w') :
   Calls Try.prog 217 #[.slice (some ⟨bl, 0, none⟩) 7 7] w fun e w' => e = .returned (.int .i64 (fst7 x1 x2 x3 x4 x5 x6 x7)) ∧ Below w.heap.size w w' := by
  replace h1 := Lib.hid h1
  replace h2 := Lib.hid h2
  replace h3 := Lib.hid h3
  replace h4 := Lib.hid h4
  replace h5 := Lib.hid h5
  replace h6 := Lib.hid h6
  replace h7 := Lib.hid h7
  go_enter Try.func217, Try.ntmps217
  go_wp2_with fail
  go_loopw [4, 5, 8] (fun _ _ i wr => ∃ k : Nat, k ≤ 7 ∧ i = .int .i64 k ∧ Hid (∀ j, j < k → [x1, x2, x3, x4, x5, x6, x7].getD j 0 = 0) ∧ Below w.heap.size w wr) (fun _ _ i _ => 7 - (intOf i).toNat)
  case atStart => exact ⟨0, by omega, rfl, Lib.hid (fun j hj => by omega), Below.refl _ _⟩
  case round =>
    obtain ⟨k, hk, rfl, hz, hB⟩ := hrel
    have HLr := HL.below hB
    by_cases hlt : k < 7
    · have hk7 : k = 0 ∨ k = 1 ∨ k = 2 ∨ k = 3 ∨ k = 4 ∨ k = 5 ∨ k = 6 := by omega
      clear hk hlt
      rcases hk7 with rfl | rfl | rfl | rfl | rfl | rfl | rfl
      · have d0 := HLr.cell 0 _ rfl
        by_cases hx : x1 = 0
        · have tx : (x1 != 0) = false := by rw [hx]; rfl
          have hz2 : Hid (∀ j, j < 1 → [x1, x2, x3, x4, x5, x6, x7].getD j 0 = 0) := Lib.hid (fun j hj => by
            by_cases e : j = 0
            · subst e; exact hx
            · exact hz.out j (by omega))
          clear hx
          go_wp2_with fail
          refine (h1.out wr hB).mono ?_
          rintro e w2 ⟨rfl, g2⟩
          go_wp2
          exact ⟨⟨1, by omega, rfl, hz2, bt_ hB g2⟩, by simp [intOf]⟩
        · have tx : (x1 != 0) = true := by simpa using hx
          have hf : Hid (fst7 x1 x2 x3 x4 x5 x6 x7 = x1) := Lib.hid (by
            unfold fst7
            simp [hx])
          clear hx
          go_wp2_with fail
          refine (h1.out wr hB).mono ?_
          rintro e w2 ⟨rfl, g2⟩
          go_wp2
          go_ret
          rw [hf.out]
          exact ⟨rfl, bt_ hB g2⟩
      · have d0 := HLr.cell 1 _ rfl
        by_cases hx : x2 = 0
        · have tx : (x2 != 0) = false := by rw [hx]; rfl
          have hz2 : Hid (∀ j, j < 2 → [x1, x2, x3, x4, x5, x6, x7].getD j 0 = 0) := Lib.hid (fun j hj => by
            by_cases e : j = 1
            · subst e; exact hx
            · exact hz.out j (by omega))
          clear hx
          go_wp2_with fail
          refine (h2.out (hz.out 0 (by omega)) wr hB).mono ?_
          rintro e w2 ⟨rfl, g2⟩
          go_wp2
          exact ⟨⟨2, by omega, rfl, hz2, bt_ hB g2⟩, by simp [intOf]⟩
        · have tx : (x2 != 0) = true := by simpa using hx
          have hf : Hid (fst7 x1 x2 x3 x4 x5 x6 x7 = x2) := Lib.hid (by
            unfold fst7
            have z1 : x1 = 0 := hz.out 0 (by omega)
            simp [z1, hx])
          clear hx
          go_wp2_with fail
          refine (h2.out (hz.out 0 (by omega)) wr hB).mono ?_
          rintro e w2 ⟨rfl, g2⟩
          go_wp2
          go_ret
          rw [hf.out]
          exact ⟨rfl, bt_ hB g2⟩
      · have d0 := HLr.cell 2 _ rfl
        by_cases hx : x3 = 0
        · have tx : (x3 != 0) = false := by rw [hx]; rfl
          have hz2 : Hid (∀ j, j < 3 → [x1, x2, x3, x4, x5, x6, x7].getD j 0 = 0) := Lib.hid (fun j hj => by
            by_cases e : j = 2
            · subst e; exact hx
            · exact hz.out j (by omega))
          clear hx
          go_wp2_with fail
          refine (h3.out (hz.out 0 (by omega)) wr hB).mono ?_
          rintro e w2 ⟨rfl, g2⟩
          go_wp2
          exact ⟨⟨3, by omega, rfl, hz2, bt_ hB g2⟩, by simp [intOf]⟩
        · have tx : (x3 != 0) = true := by simpa using hx
          have hf : Hid (fst7 x1 x2 x3 x4 x5 x6 x7 = x3) := Lib.hid (by
            unfold fst7
            have z1 : x1 = 0 := hz.out 0 (by omega)
            have z2 : x2 = 0 := hz.out 1 (by omega)
            simp [z1, z2, hx])
          clear hx
          go_wp2_with fail
          refine (h3.out (hz.out 0 (by omega)) wr hB).mono ?_
          rintro e w2 ⟨rfl, g2⟩
          go_wp2
          go_ret
          rw [hf.out]
          exact ⟨rfl, bt_ hB g2⟩
      · have d0 := HLr.cell 3 _ rfl
        by_cases hx : x4 = 0
        · have tx : (x4 != 0) = false := by rw [hx]; rfl
          have hz2 : Hid (∀ j, j < 4 → [x1, x2, x3, x4, x5, x6, x7].getD j 0 = 0) := Lib.hid (fun j hj => by
            by_cases e : j = 3
            · subst e; exact hx
            · exact hz.out j (by omega))
          clear hx
          go_wp2_with fail
          refine (h4.out (hz.out 0 (by omega)) wr hB).mono ?_
          rintro e w2 ⟨rfl, g2⟩
          go_wp2
          exact ⟨⟨4, by omega, rfl, hz2, bt_ hB g2⟩, by simp [intOf]⟩
        · have tx : (x4 != 0) = true := by simpa using hx
          have hf : Hid (fst7 x1 x2 x3 x4 x5 x6 x7 = x4) := Lib.hid (by
            unfold fst7
            have z1 : x1 = 0 := hz.out 0 (by omega)
            have z2 : x2 = 0 := hz.out 1 (by omega)
            have z3 : x3 = 0 := hz.out 2 (by omega)
            simp [z1, z2, z3, hx])
          clear hx
          go_wp2_with fail
          refine (h4.out (hz.out 0 (by omega)) wr hB).mono ?_
          rintro e w2 ⟨rfl, g2⟩
          go_wp2
          go_ret
          rw [hf.out]
          exact ⟨rfl, bt_ hB g2⟩
      · have d0 := HLr.cell 4 _ rfl
        by_cases hx : x5 = 0
        · have tx : (x5 != 0) = false := by rw [hx]; rfl
          have hz2 : Hid (∀ j, j < 5 → [x1, x2, x3, x4, x5, x6, x7].getD j 0 = 0) := Lib.hid (fun j hj => by
            by_cases e : j = 4
            · subst e; exact hx
            · exact hz.out j (by omega))
          clear hx
          go_wp2_with fail
          refine (h5.out (hz.out 0 (by omega)) wr hB).mono ?_
          rintro e w2 ⟨rfl, g2⟩
          go_wp2
          exact ⟨⟨5, by omega, rfl, hz2, bt_ hB g2⟩, by simp [intOf]⟩
        · have tx : (x5 != 0) = true := by simpa using hx
          have hf : Hid (fst7 x1 x2 x3 x4 x5 x6 x7 = x5) := Lib.hid (by
            unfold fst7
            have z1 : x1 = 0 := hz.out 0 (by omega)
            have z2 : x2 = 0 := hz.out 1 (by omega)
            have z3 : x3 = 0 := hz.out 2 (by omega)
            have z4 : x4 = 0 := hz.out 3 (by omega)
            simp [z1, z2, z3, z4, hx])
          clear hx
          go_wp2_with fail
          refine (h5.out (hz.out 0 (by omega)) wr hB).mono ?_
          rintro e w2 ⟨rfl, g2⟩
          go_wp2
          go_ret
          rw [hf.out]
          exact ⟨rfl, bt_ hB g2⟩
      · have d0 := HLr.cell 5 _ rfl
        by_cases hx : x6 = 0
        · have tx : (x6 != 0) = false := by rw [hx]; rfl
          have hz2 : Hid (∀ j, j < 6 → [x1, x2, x3, x4, x5, x6, x7].getD j 0 = 0) := Lib.hid (fun j hj => by
            by_cases e : j = 5
            · subst e; exact hx
            · exact hz.out j (by omega))
          clear hx
          go_wp2_with fail
          refine (h6.out (hz.out 0 (by omega)) wr hB).mono ?_
          rintro e w2 ⟨rfl, g2⟩
          go_wp2
          exact ⟨⟨6, by omega, rfl, hz2, bt_ hB g2⟩, by simp [intOf]⟩
        · have tx : (x6 != 0) = true := by simpa using hx
          have hf : Hid (fst7 x1 x2 x3 x4 x5 x6 x7 = x6) := Lib.hid (by
            unfold fst7
            have z1 : x1 = 0 := hz.out 0 (by omega)
            have z2 : x2 = 0 := hz.out 1 (by omega)
            have z3 : x3 = 0 := hz.out 2 (by omega)
            have z4 : x4 = 0 := hz.out 3 (by omega)
            have z5 : x5 = 0 := hz.out 4 (by omega)
            simp [z1, z2, z3, z4, z5, hx])
          clear hx
          go_wp2_with fail
          refine (h6.out (hz.out 0 (by omega)) wr hB).mono ?_
          rintro e w2 ⟨rfl, g2⟩
          go_wp2
          go_ret
          rw [hf.out]
          exact ⟨rfl, bt_ hB g2⟩
      · have d0 := HLr.cell 6 _ rfl
        by_cases hx : x7 = 0
        · have tx : (x7 != 0) = false := by rw [hx]; rfl
          have hz2 : Hid (∀ j, j < 7 → [x1, x2, x3, x4, x5, x6, x7].getD j 0 = 0) := Lib.hid (fun j hj => by
            by_cases e : j = 6
            · subst e; exact hx
            · exact hz.out j (by omega))
          clear hx
          go_wp2_with fail
          refine (h7.out (hz.out 0 (by omega)) wr hB).mono ?_
          rintro e w2 ⟨rfl, g2⟩
          go_wp2
          exact ⟨⟨7, by omega, rfl, hz2, bt_ hB g2⟩, by simp [intOf]⟩
        · have tx : (x7 != 0) = true := by simpa using hx
          have hf : Hid (fst7 x1 x2 x3 x4 x5 x6 x7 = x7) := Lib.hid (by
            unfold fst7
            have z1 : x1 = 0 := hz.out 0 (by omega)
            have z2 : x2 = 0 := hz.out 1 (by omega)
            have z3 : x3 = 0 := hz.out 2 (by omega)
            have z4 : x4 = 0 := hz.out 3 (by omega)
            have z5 : x5 = 0 := hz.out 4 (by omega)
            have z6 : x6 = 0 := hz.out 5 (by omega)
            simp [z1, z2, z3, z4, z5, z6, hx])
          clear hx
          go_wp2_with fail
          refine (h7.out (hz.out 0 (by omega)) wr hB).mono ?_
          rintro e w2 ⟨rfl, g2⟩
          go_wp2
          go_ret
          rw [hf.out]
          exact ⟨rfl, bt_ hB g2⟩
    · obtain rfl : k = 7 := by omega
      have hf : Hid (fst7 x1 x2 x3 x4 x5 x6 x7 = 0) := Lib.hid (by
        unfold fst7
        have z1 : x1 = 0 := hz.out 0 (by omega)
        have z2 : x2 = 0 := hz.out 1 (by omega)
        have z3 : x3 = 0 := hz.out 2 (by omega)
        have z4 : x4 = 0 := hz.out 3 (by omega)
        have z5 : x5 = 0 := hz.out 4 (by omega)
        have z6 : x6 = 0 := hz.out 5 (by omega)
        have z7 : x7 = 0 := hz.out 6 (by omega)
        simp [z1, z2, z3, z4, z5, z6, z7])
      go_wp2
      go_ret
      rw [hf.out]
      exact ⟨rfl, hB⟩
end Go.Proofs.Ytijeabhfddaoaaa
