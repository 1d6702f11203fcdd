/- The walk of container/heap's Pop, of choose's numbers. -/
import Derived.Test.YtacbenjfiabegaaHu
namespace Go.Proofs.Ytacbenjfiabegaa
set_option linter.unusedVariables false
set_option linter.unusedSimpArgs false
open Go.RowKit Go.Proofs.YtacbenjfiabegaaW.PrintWords Go.Proofs.Sh

set_option maxRecDepth 100000 in
set_option maxHeartbeats 1600000 in
theorem hPop_c (b g n c : Nat) (l : List Int) (w0 w : World) (hN : Nm w0 w b (.slice (some ⟨g, 0, none⟩) (n + 1) c) l) (hB : Below w0.heap.size w0 w) (hl : l.length = n + 1) (hn : n < 1000000) (hH : Hp.IsHeap 0 id l l.length) :
   Calls Try.prog 68 #[.iface 117 (.pointer (some ⟨b, 0, none⟩))] w fun e w' => e = .returned (.iface 3 (.int .i64 (l.getD 0 0))) ∧ Nm w0 w' b (.slice (some ⟨g, 0, none⟩) n c) ((Hp.popL 0 id l).take n) ∧ Below w0.heap.size w0 w' ∧ Kp w0 w w' (.slice (some ⟨g, 0, none⟩) (n + 1) c) (.slice (some ⟨g, 0, none⟩) n c) := by
  obtain ⟨q1, q2, _, _, _⟩ := Hp.pop_ok 0 id l (by omega) hH
  have hpl : Hid (Hp.popL 0 id l = Hp.downL 0 id (n + 1) (Hp.sw 0 l 0 n) 0 n) := Lib.hid (by unfold Hp.popL; rw [hl]; rfl)
  rw [hl, Nat.add_sub_cancel] at q2
  rw [hl] at q1
  generalize l.getD 0 0 = y at q2 ⊢
  have c0 := hN.box.one
  have hm0 := m_Len b _ w c0
  have t1 : IntKind.i64.wrap (((n + 1 : Nat) : Int) - 1) = (n : Int) := by rw [wrapI _ (by omega) (by omega)]; omega
  have t1b : IntKind.i64.wrap (((n : Int) + 1) - 1) = (n : Int) := by rw [wrapI _ (by omega) (by omega)]; omega
  have hs := Lib.hid (nSwap_c g (n + 1) c l 0 n w0 w hN.own hB hl (by omega) (by omega))
  replace q1 := Lib.hid q1
  replace q2 := Lib.hid q2
  clear hH
  go_enter Try.func68, Try.ntmps68
  go_wp2_with fail
  refine (nLen_c _ _ _ w).mono ?_
  rintro e w1 ⟨rfl, rfl⟩
  have hm1 := m_Swap b _ w c0
  clear hm0
  go_wp2_with fail
  refine hs.out.mono ?_
  rintro e w2 ⟨rfl, hO2, hg2, hB2⟩
  have hN2 : Nm w0 w2 b (.slice (some ⟨g, 0, none⟩) (n + 1) c) (Hp.sw 0 l 0 n) := ⟨hN.base, blk_grown hN.box hg2 hN.ne, hO2⟩
  have hK2 : Kp w0 w w2 (.slice (some ⟨g, 0, none⟩) (n + 1) c) (.slice (some ⟨g, 0, none⟩) (n + 1) c) := Kp.grown hg2
  have hd := Lib.hid (down_c b g (n + 1) n c (n + 1) (Hp.sw 0 l 0 n) 0 w0 w2 hN2 hB2 (by rw [Hp.sw_len]; exact hl) (by omega) (by omega) (by omega) (by omega))
  rw [← hpl.out] at hd
  clear hs hm1 c0 hN hB hO2 hg2 hN2 hB2
  go_wp2_with fail
  refine hd.out.mono ?_
  rintro e w3 ⟨⟨r, rfl⟩, hN3, hB3, hK3⟩
  have hm3 := m_Pop (.pointer (some ⟨b, 0, none⟩)) w3
  have hp := Lib.hid (nPop_c b g n c (Hp.popL 0 id l) w0 w3 hN3 hB3 q1.out)
  rw [q2.out] at hp
  clear hd
  go_wp2_with fail
  refine hp.out.mono ?_
  rintro e w4 ⟨rfl, hN4, hB4, hK4⟩
  go_wp2
  go_ret
  exact ⟨rfl, hN4, hB4, (hK2.trans hK3).trans hK4⟩
end Go.Proofs.Ytacbenjfiabegaa
