/- The walk of the reference's Xor; shares add up. -/
import Derived.Test.YtijeabhfddaoaaaDe
import Derived.Test.YtijeabhfddaoaaaM13
namespace Go.Proofs.Ytijeabhfddaoaaa
set_option linter.unusedVariables false
open Go.RowKit Go.Proofs.YtijeabhfddaoaaaW.PrintWords Go.Proofs.Sh

set_option maxRecDepth 100000 in
set_option maxHeartbeats 1600000 in
theorem rXor_c (v u : Value) (a b : List F) (w : World) (hv : Rb w v a) (hu : Rb w u b) (hl : a.length ≤ 1000000) :
   Calls Try.prog 127 #[v, u] w fun e w' => ∃ z, e = .returned z ∧ Ob w w' z (F.xorL a b) ∧ Below w.heap.size w w' := by
  obtain ⟨A, c, rfl⟩ := rk_form hv
  have hB := Below.refl w.heap.size w
  go_enter Try.func127, Try.ntmps127
  go_wp2_with fail
  go_loopw [5, 6] (fun s j wr => ∃ k : Nat, k ≤ a.length ∧ j = .int .i64 k ∧ Ob w wr s ((List.range k).map fun i => a.getD i 0 + b.getD i 0) ∧ Below w.heap.size w wr) (fun _ j _ => a.length - (intOf j).toNat)
  case atStart => exact ⟨0, by omega, rfl, Own.nil _ _ _ _, hB⟩
  case round =>
    clear hB
    obtain ⟨k, hk, rfl, hO, hB⟩ := hrel
    by_cases hlt : k < a.length
    · obtain ⟨ad, rfl, d0⟩ := kb_at (rk_C hv) k hlt
      have HS := Lib.hid (range_snoc (fun i => a.getD i 0 + b.getD i 0) k)
      have hol : Hid (((List.range k).map fun i => a.getD i 0 + b.getD i 0).length ≤ 1000000) := Lib.hid (by rw [List.length_map, List.length_range]; omega)
      have e0 := pw_cell_below hB d0
      have X1 := xor8 (a.getD k 0) (b.getD k 0)
      generalize ((List.range k).map fun i => a.getD i 0 + b.getD i 0) = out at *
      have hbk : Hid (F.at_ b k = b.getD k 0) := Lib.hid rfl
      generalize a.getD k 0 = x at *
      generalize b.getD k 0 = y at *
      replace hu := hu.below hB
      go_wp2_with fail
      go_region_held3 (fun w' => w'.cell? (ad.add k) = some (.int .u8 (x.n : Int)))
        (go_keep)
        (first
        | (go_at_call 79; refine (rAt_c u b _ k y rfl (by omega) hbk.out _ (by first | exact hu | exact hu.drew | exact hu.drewN _)).mono ?_; rintro e w6 ⟨rfl, rfl⟩)
        | (refine step_app_y (w0 := w) (by rfl) (.tmp 13) (.tmp 22) (by rfl) _ _ (x + y) _ (by rfl) (by rfl) (by first | rfl | exact X1.symm) (hO.below (pw_below_drewN (Below.refl _ _) _)) (pw_below_drewN hB _) (by have := hol.out; omega) ?_; intro v8 w8 hO8 hB8 hg8; replace e0 := pw_cell_below hB8 d0)
        | fail)
      go_wp2
      exact ⟨⟨k + 1, by omega, by go_num, by rw [HS.out]; exact hO8, hB8⟩, by simp [intOf]; try omega⟩
    · obtain rfl : k = a.length := by omega
      go_wp2
      go_ret
      exact ⟨_, rfl, hO, hB⟩
/-- The shares of two blobs and tapes, added, are those of both together. -/
theorem shs_xor (p : Pl) (h : p.Ok) (a b s t : List F) (hl : a.length = b.length) (n : Nat) (hn : p.T.toNat * F.nS p.L.toNat a.length = n) (h1 : n ≤ s.length) (h2 : n ≤ t.length) (k : Nat) :
    shs p (F.xorL a b) (F.xorL (s.take n) (t.take n)) k = F.xorL (shs p a s k) (shs p b t k) := by
  have hS : (polysOf p b t).length = F.nS p.L.toNat a.length := by rw [polys_len, hl]
  apply F.ext_at
  · show (F.dshare _ _).length = (F.xorL (F.dshare _ _) _).length
    rw [F.dshare_len, F.xorL_len, F.dshare_len, polys_len, polys_len, F.xorL_len]
  · intro j hj
    have hj : j < (F.dshare (polysOf p (F.xorL a b) (F.xorL (s.take n) (t.take n))) (point ((k : Int) + 1))).length := hj
    rw [F.dshare_len, polys_len, F.xorL_len] at hj
    show (F.dshare (polysOf p (F.xorL a b) (F.xorL (s.take n) (t.take n))) (point ((k : Int) + 1))).getD j 0 = (F.xorL (F.dshare (polysOf p a s) (point ((k : Int) + 1))) (F.dshare (polysOf p b t) (point ((k : Int) + 1)))).getD j 0
    rw [F.xorL_at _ _ _ (by rw [F.dshare_len, polys_len]; exact hj), F.dshare_at _ _ _ (by rw [polys_len, F.xorL_len]; exact hj), F.dshare_at _ _ _ (by rw [polys_len]; exact hj), F.dshare_at _ _ _ (by rw [hS]; exact hj),
      polys_at _ _ _ _ (by rw [F.xorL_len]; exact hj), polys_at _ _ _ _ hj, polys_at _ _ _ _ (by rw [← hl]; exact hj), F.rowOf_xor _ _ _ hl, F.tp_xor _ _ _ _ _ ?_ h1 h2, F.dpoly_add _ _ _ _ _ _ (L_small p h)]
    rw [← hn, Nat.mul_comm p.T.toNat]
    exact Nat.mul_le_mul_right _ hj
end Go.Proofs.Ytijeabhfddaoaaa
