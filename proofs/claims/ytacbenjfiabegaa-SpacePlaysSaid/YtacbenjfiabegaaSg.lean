/- The walks of space: heap, some, Free, Longest. -/
import Derived.Test.YtacbenjfiabegaaSf
namespace Go.Proofs.Ytacbenjfiabegaa
set_option linter.unusedVariables false
set_option linter.unusedSimpArgs false
open Go.RowKit Go.Proofs.YtacbenjfiabegaaW.PrintWords Go.Proofs.Sh

theorem nr_new (w : World) : Nr w ((w.alloc (.cells #[] 108)).alloc (.cells #[.slice (some ⟨w.heap.size, 0, none⟩) 0 0] 110)) (w.heap.size + 1) (.slice (some ⟨w.heap.size, 0, none⟩) 0 0) [] := by
  have h1 := lit_ownP (w0 := w) (W := w) [] #[] rfl 0 rfl (by omega) (Nat.le_refl _)
  refine ⟨by omega, ?_, Own.alloc h1 _⟩
  have := Blk.new (w.alloc (.cells #[] 108)) #[.slice (some ⟨w.heap.size, 0, none⟩) 0 0] 110
  rwa [show (w.alloc (.cells #[] 108)).heap.size = w.heap.size + 1 from Array.size_push _] at this
/-- A heap of some runs. -/
def HeapR (H R : List (Int × Int)) : Prop := Hp.IsHeap dp Prod.fst H H.length ∧ H.Perm R
theorem heapR_nil : HeapR [] [] := ⟨fun k h0 h1 => by simp at h1, List.Perm.refl _⟩
theorem heapR_push {H R : List (Int × Int)} (h : HeapR H R) (r : Int × Int) : HeapR (Hp.pushL dp Prod.fst H r) (R ++ [r]) := by
  obtain ⟨h1, h2⟩ := Hp.push_ok dp Prod.fst H r h.1
  refine ⟨?_, h1.trans (h.2.append_right _)⟩
  rw [h1.length_eq, List.length_append]
  exact h2
theorem runSt_in {l : List Bool} {k : Nat} (h : k < l.length ∧ l.getD k false = true) : runSt l (k + 1) = runSt l k := if_pos h
theorem runSt_new {l : List Bool} {k : Nat} (h : ¬ (k < l.length ∧ l.getD k false = true)) (h2 : (runSt l k).1 < k) : runSt l (k + 1) = (k + 1, (runSt l k).2 ++ [(((runSt l k).1 : Int), ((k - (runSt l k).1 : Nat) : Int))]) := by
  rw [runSt, if_neg h, if_pos h2]
theorem runSt_none {l : List Bool} {k : Nat} (h : ¬ (k < l.length ∧ l.getD k false = true)) (h2 : ¬ (runSt l k).1 < k) : runSt l (k + 1) = (k + 1, (runSt l k).2) := by
  rw [runSt, if_neg h, if_neg h2]
theorem runSt_le (l : List Bool) (k : Nat) : (runSt l k).1 ≤ k := by
  induction k with
  | zero => exact Nat.le_refl _
  | succ k ih =>
    rw [runSt]
    split
    · omega
    · exact Nat.le_refl _
set_option maxRecDepth 100000 in
set_option maxHeartbeats 3200000 in
theorem heap_c (p : Value) (l : List Bool) (w : World) (h : Rs w p l) (hl : l.length ≤ 100000) :
   Calls Try.prog 66 #[p] w fun e w' => ∃ b v H, e = .returned (.pointer (some ⟨b, 0, none⟩)) ∧ Nr w w' b v H ∧ Below w.heap.size w w' ∧ HeapR H (runsL l) := by
  have hN0 := nr_new w
  have hB0 : Below w.heap.size w ((w.alloc (.cells #[] 108)).alloc (.cells #[.slice (some ⟨w.heap.size, 0, none⟩) 0 0] 110)) := below_alloc (below_alloc (Below.refl _ _) _) _
  replace h := Lib.hid h
  go_enter Try.func66, Try.ntmps66
  go_wp2_with fail
  generalize (w.alloc (.cells #[] 108)).alloc (.cells #[.slice (some ⟨w.heap.size, 0, none⟩) 0 0] 110) = w1 at *
  generalize w.heap.size + 1 = b at *
  generalize (Value.slice (some ⟨w.heap.size, 0, none⟩) 0 0) = v0 at *
  refine (slots_c p l w1 (h.out.below hB0)).mono ?_
  rintro e w2 ⟨rfl, rfl⟩
  have t0 : IntKind.i64.wrap ((l.length : Int) + 1) = ((l.length + 1 : Nat) : Int) := by rw [wrapI _ (by omega) (by omega)]; omega
  go_wp2_with fail
  go_loopw [4, 11] (fun a i wr => ∃ (k : Nat) (H : List (Int × Int)) (v : Value), k ≤ l.length + 1 ∧ a = .int .i64 (runSt l k).1 ∧ i = .int .i64 k ∧ Nr w wr b v H ∧ Below w.heap.size w wr ∧ Hid (HeapR H (runSt l k).2)) (fun _ i _ => l.length + 1 - (intOf i).toNat)
  case atStart => exact ⟨0, [], v0, by omega, rfl, rfl, hN0, hB0, Lib.hid heapR_nil⟩
  case round =>
    clear hN0 hB0
    obtain ⟨k, H, v, hk, rfl, rfl, hN, hB, hH⟩ := hrel
    have hRl := Lib.hid (run_len l k)
    have hle := runSt_le l k
    by_cases hlt : k < l.length + 1
    · have t2 : decide ((k : Int) < ((l.length + 1 : Nat) : Int)) = true := decide_eq_true (by omega)
      have hsl := slots_c p l wr (h.out.below hB)
      go_wp2_with fail
      refine hsl.mono ?_
      rintro e w2 ⟨rfl, rfl⟩
      clear hsl
      by_cases hkl : k < l.length
      · have t3 : decide ((k : Int) < (l.length : Int)) = true := decide_eq_true (by omega)
        rcases h.out with ⟨rfl, rfl⟩ | ⟨bs, A, c, rfl, hbx, hr⟩
        · exact absurd hkl (by simp)
        · have c0 := (hbx.below hB).one
          obtain ⟨ad, rfl, d0⟩ := kl_at (rk_C hr) k hkl
          have d0 := pw_cell_below hB d0
          cases hq : l.getD k false with
          | true =>
            have hs1 := Lib.hid (runSt_in ⟨hkl, hq⟩)
            rw [hq] at d0
            clear hq
            go_wp2
            refine ⟨⟨k + 1, H, v, by omega, by rw [hs1.out], by go_num, hN, hB, ?_⟩, by simp [intOf]; omega⟩
            rw [hs1.out]
            exact hH
          | false =>
            have hnf : ¬ (k < l.length ∧ l.getD k false = true) := fun e => by rw [hq] at e; cases e.2
            rw [hq] at d0
            clear hq
            generalize hst : runSt l k = st at *
            obtain ⟨a, R⟩ := st
            by_cases ha : a < k
            · have hs2 := Lib.hid (runSt_new hnf (by rw [hst]; exact ha))
              have t4 : decide ((a : Int) < (k : Int)) = true := decide_eq_true (by omega)
              have t5 : IntKind.i64.wrap ((k : Int) - (a : Int)) = ((k - a : Nat) : Int) := by rw [wrapI _ (by omega) (by omega)]; omega
              have hps := Lib.hid (shPush_c _ v H (a : Int) ((k - a : Nat) : Int) w wr hN hB (by have := hH.out.2.length_eq; have := hRl.out; omega))
              rw [hst] at hs2
              clear hst hnf
              go_wp2_with fail
              refine hps.out.mono ?_
              rintro e w3 ⟨rfl, v3, hN3, hB3⟩
              have hH3 := Lib.hid (heapR_push hH.out ((a : Int), ((k - a : Nat) : Int)))
              clear hN hB hps hH
              go_wp2
              refine ⟨⟨k + 1, _, v3, by omega, by rw [hs2.out]; rfl, by go_num, hN3, hB3, ?_⟩, by simp [intOf]; omega⟩
              rw [hs2.out]
              exact hH3
            · have hs2 := Lib.hid (runSt_none hnf (by rw [hst]; exact ha))
              have t4 : decide ((a : Int) < (k : Int)) = false := decide_eq_false (by omega)
              rw [hst] at hs2
              clear hst hnf
              go_wp2
              refine ⟨⟨k + 1, H, v, by omega, by rw [hs2.out]; rfl, by go_num, hN, hB, ?_⟩, by simp [intOf]; omega⟩
              rw [hs2.out]
              exact hH
      · have t3 : decide ((k : Int) < (l.length : Int)) = false := decide_eq_false (by omega)
        have hnf : ¬ (k < l.length ∧ l.getD k false = true) := fun e => hkl e.1
        generalize hst : runSt l k = st at *
        obtain ⟨a, R⟩ := st
        by_cases ha : a < k
        · have hs2 := Lib.hid (runSt_new hnf (by rw [hst]; exact ha))
          have t4 : decide ((a : Int) < (k : Int)) = true := decide_eq_true (by omega)
          have t5 : IntKind.i64.wrap ((k : Int) - (a : Int)) = ((k - a : Nat) : Int) := by rw [wrapI _ (by omega) (by omega)]; omega
          have hps := Lib.hid (shPush_c _ v H (a : Int) ((k - a : Nat) : Int) w wr hN hB (by have := hH.out.2.length_eq; have := hRl.out; omega))
          rw [hst] at hs2
          clear hst hnf
          go_wp2_with fail
          refine hps.out.mono ?_
          rintro e w3 ⟨rfl, v3, hN3, hB3⟩
          have hH3 := Lib.hid (heapR_push hH.out ((a : Int), ((k - a : Nat) : Int)))
          clear hN hB hps hH
          go_wp2
          refine ⟨⟨k + 1, _, v3, by omega, by rw [hs2.out]; rfl, by go_num, hN3, hB3, ?_⟩, by simp [intOf]; omega⟩
          rw [hs2.out]
          exact hH3
        · have hs2 := Lib.hid (runSt_none hnf (by rw [hst]; exact ha))
          have t4 : decide ((a : Int) < (k : Int)) = false := decide_eq_false (by omega)
          rw [hst] at hs2
          clear hst hnf
          go_wp2
          refine ⟨⟨k + 1, H, v, by omega, by rw [hs2.out]; rfl, by go_num, hN, hB, ?_⟩, by simp [intOf]; omega⟩
          rw [hs2.out]
          exact hH
    · have t2 : decide ((k : Int) < ((l.length + 1 : Nat) : Int)) = false := decide_eq_false (by omega)
      obtain rfl : k = l.length + 1 := by omega
      go_wp2
      go_ret
      exact ⟨b, v, H, rfl, hN, hB, hH.out⟩
end Go.Proofs.Ytacbenjfiabegaa
