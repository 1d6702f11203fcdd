/- The walks of the reference of layer 3 (polynomials through points). -/
import Derived.Test.YtijeabhfddaoaaaR02
import Derived.Test.YtijeabhfddaoaaaR08b
import Derived.Test.YtijeabhfddaoaaaM5
namespace Go.Proofs.Ytijeabhfddaoaaa
set_option linter.unusedVariables false
open Go.RowKit Go.Proofs.YtijeabhfddaoaaaW.PrintWords Go.Proofs.Sh

set_option maxRecDepth 100000 in
set_option maxHeartbeats 1600000 in
theorem rWeight_c (v : Value) (l : List F) (i : Nat) (x : F) (w : World) (hi : i < l.length) (hv : Rb w v l) :
   Calls Try.prog 183 #[v, .int .i64 (i : Int), .int .u8 (x.n : Int)] w fun e w' => e = .returned (.int .u8 ((F.wt l x i).n : Int)) ∧ Drawn0 w w' := by
  obtain ⟨A, c, rfl, hc, hr⟩ := hv
  have hl := kb_len hr
  go_enter Try.func183, Try.ntmps183
  go_wp2
  go_loopw [7, 8] (fun s j wr => ∃ (k : Nat) (y : F), k ≤ l.length ∧ j = .int .i64 k ∧ s = .int .u8 (y.n : Int) ∧ Hid (y = F.wtTo l i x k) ∧ Drawn0 w wr) (fun _ j _ => l.length - (intOf j).toNat)
  case atStart => exact ⟨0, 1, by omega, rfl, rfl, Lib.hid rfl, Drawn0.refl _⟩
  case round =>
    obtain ⟨k, y, hk, rfl, rfl, hy, hD⟩ := hrel
    by_cases hlt : k < l.length
    · by_cases hki : k = i
      · subst hki
        have hy' : Hid (y = F.wtTo l k x (k + 1)) := Lib.hid (by rw [hy.out]; exact (if_pos rfl).symm)
        go_wp2
        exact ⟨⟨k + 1, _, by omega, by go_num, rfl, hy', hD⟩, by simp [intOf]; try omega⟩
      · obtain ⟨ad, e1, c1⟩ := kb_at (kb_drawn hr hD) k hlt
        obtain ⟨ad', e2, c2⟩ := kb_at (kb_drawn hr hD) i hi
        subst e1
        injection e2 with e2
        subst e2
        have t1 : ((k : Int) != (i : Int)) = true := bne_iff_ne.2 (by omega)
        have hy' : Hid (y * ((x + l.getD k 0) * F.inv (l.getD i 0 + l.getD k 0)) = F.wtTo l i x (k + 1)) := Lib.hid (by rw [hy.out]; exact (if_neg hki).symm)
        generalize l.getD k 0 = a at *
        generalize l.getD i 0 = b at *
        have X1 := Lib.hid (xor8 x a)
        have X2 := Lib.hid (xor8 b a)
        go_wp2
        go_quiet ((first | (go_at_call 43; exact qs (rInv_c (b + a) _ _ X2.out)) | (go_at_call 41; exact qs (rMul_c (x + a) (F.inv (b + a)) _ _ _ X1.out rfl)) | (go_at_call 41; exact qs (rMul_c y ((x + a) * F.inv (b + a)) _ _ _ rfl rfl)) | fail))
        go_wp2
        exact ⟨⟨k + 1, _, by omega, by go_num, rfl, hy', hD.step _⟩, by simp [intOf]; try omega⟩
    · obtain rfl : k = l.length := by omega
      have h1 := hy.out
      subst h1
      go_wp2
      go_ret
      exact ⟨rfl, hD⟩
set_option maxRecDepth 100000 in
set_option maxHeartbeats 1600000 in
theorem rWeights_c (v : Value) (l : List F) (x : F) (w : World) (hv : Rb w v l) (b1 : l.length ≤ 100000) :
   Calls Try.prog 111 #[v, .int .u8 (x.n : Int)] w fun e w' => ∃ z, e = .returned z ∧ Ob w w' z (F.wts l x) ∧ Below w.heap.size w w' := by
  obtain ⟨A, c, rfl, hc, hr⟩ := hv
  have hl := kb_len hr
  have hW : Hid (F.wts l x = (List.range l.length).map (F.wt l x)) := Lib.hid rfl
  go_enter Try.func111, Try.ntmps111
  go_wp2
  go_loopw [5, 6] (fun s j wr => ∃ k : Nat, k ≤ l.length ∧ j = .int .i64 k ∧ Ob w wr s ((List.range k).map (F.wt l x)) ∧ Below w.heap.size w wr) (fun _ j _ => l.length - (intOf j).toNat)
  case atStart => exact ⟨0, by omega, rfl, Own.nil _ _ _ _, Below.refl _ _⟩
  case round =>
    obtain ⟨k, hk, rfl, hO, hB⟩ := hrel
    by_cases hlt : k < l.length
    · have HS := Lib.hid (range_snoc (F.wt l x) k)
      have hv : Rb wr (.slice A l.length c) l := ⟨A, c, rfl, hc, Kd.C_below hr hB⟩
      go_wp2_with fail
      refine (rWeight_c _ l k x _ hlt hv).mono ?_
      rintro e w2 ⟨rfl, h2⟩
      have hO := hO.drawn h2
      have hB := bd hB h2
      clear h2 hv
      generalize F.wt l x k = y at *
      go_wp2_with (at_builtin; refine app_one (enc := bV) rfl (.tmp 13) (.tmp 18) 40 5 (.int .u8 0) 1 rfl Try.underlying40 infoB rfl (by decide) _ _ y rfl rfl _ (bV_eq ?hc) hO hB ?hl ?_; (case hc => (first | exact rfl | exact rfl)); (case hl => (first | (simp; omega) | omega)); intro v1 w1 ho hb hg)
      exact ⟨⟨k + 1, by omega, by go_num, by rw [HS.out]; exact ho, hb⟩, by simp [intOf]; try omega⟩
    · obtain rfl : k = l.length := by omega
      go_wp2
      go_ret
      exact ⟨_, rfl, by rw [hW.out]; exact hO, hB⟩
set_option maxRecDepth 100000 in
set_option maxHeartbeats 3200000 in
theorem rThrough_c (v u : Value) (l m : List F) (w : World) (hv : Rb w v l) (hu : Rb w u m) (hlm : l.length = m.length) (b1 : l.length ≤ 100000) :
   Calls Try.prog 120 #[v, u] w fun e w' => ∃ z, e = .returned z ∧ Ob w w' z (F.nwt l m l.length) ∧ Below w.heap.size w w' := by
  obtain ⟨A, c, rfl, hc, hr⟩ := hv
  obtain ⟨B, d, rfl, hd, hs⟩ := hu
  have hl := kb_len hr
  replace hlm := Lib.hid hlm
  have hR := lit_own (w0 := w) (W := w) [1] #[.int .u8 1] rfl 1 rfl (by decide) (Nat.le_refl _)
  have hB := below_alloc (Below.refl w.heap.size w) (.cells #[.int .u8 1] 5)
  go_enter Try.func120, Try.ntmps120
  go_wp2_with fail
  generalize (Value.slice (some ⟨w.heap.size, 0, none⟩) 1 1) = v1 at *
  generalize w.alloc (.cells #[.int .u8 1] 5) = w1 at *
  go_loopw [5, 6, 7] (fun o r i wr => ∃ k : Nat, k ≤ l.length ∧ i = .int .i64 k ∧ Rb wr o (F.nwt l m k) ∧ Ob w wr o (F.nwt l m k) ∧ Ob w wr r (F.rt (l.take k)) ∧ Below w.heap.size w wr) (fun _ _ i _ => l.length - (intOf i).toNat)
  case atStart => exact ⟨0, by omega, rfl, Rk.nil _ _, Own.nil _ _ _ _, hR, hB⟩
  case round =>
    clear hR hB
    obtain ⟨k, hk, rfl, hOr, hO, hR, hB⟩ := hrel
    by_cases hlt : k < l.length
    · have HS : Hid (F.rt (l.take (k + 1)) = F.pmul (F.rt (l.take k)) [l.getD k 0, 1]) := Lib.hid (by rw [take_snoc' l k 0 hlt, F.rt_snoc])
      have HN : Hid (F.nwt l m (k + 1) = F.padd (F.nwt l m k) (F.psc ((m.getD k 0 + F.ev (l.getD k 0) (F.nwt l m k)) * F.inv (F.ev (l.getD k 0) (F.rt (l.take k)))) (F.rt (l.take k)))) := Lib.hid rfl
      have hl1 : (F.nwt l m k).length ≤ 1000000 := by rw [F.nwt_len _ _ _ hk]; omega
      have hl2 : (F.rt (l.take k)).length ≤ 1000000 := by rw [F.rt_len, List.length_take]; omega
      generalize hP : F.nwt l m k = P at *
      generalize hQ : F.rt (l.take k) = Q at *
      obtain ⟨ad, rfl, c1⟩ := kb_at (Kd.C_below hr hB) k hlt
      obtain ⟨ad', rfl, c2⟩ := kb_at (Kd.C_below hs hB) k (by rw [← hlm.out]; exact hlt)
      have hlt' : (k : Int) < (m.length : Int) := by rw [← hlm.out]; omega
      generalize hx : l.getD k 0 = x at *
      have hx := Lib.hid hx
      generalize m.getD k 0 = y at *
      have X1 := Lib.hid (xor8 y (F.ev x P))
      clear hP hQ
      go_wp2_with fail
      go_quiet ((first | (go_at_call 76; exact qs (rEval_c _ P x _ (hOr.drewN _))) | fail))
      rw [X1.out]
      have hR := (hR.below (pw_below_drewN (Below.refl _ _) nq)).rk
      have hO := hOr.below (pw_below_drewN (Below.refl _ _) nq)
      have hB := pw_below_drewN hB nq
      have c1 := pw_cell_below (pw_below_drewN (Below.refl _ _) nq) c1
      clear hOr
      generalize wr.drewN nq = w2 at *
      go_wp2_with fail
      refine (rEval_c _ _ x _ hR).mono ?_
      rintro e w_ ⟨rfl, rfl⟩
      go_wp2_with fail
      refine (rInv_c _ _ _ rfl).mono ?_
      rintro e w_ ⟨rfl, rfl⟩
      go_wp2_with fail
      refine (rMul_c _ _ _ _ _ rfl rfl).mono ?_
      rintro e w_ ⟨rfl, rfl⟩
      go_wp2_with fail
      refine (rScale_c _ _ _ _ hR hl2).mono ?_
      rintro e w3 ⟨z, rfl, hz, h⟩
      have hR := hR.below h
      have hO := hO.below h
      have hB := bt_ hB h
      clear h
      have hz := hz.rk
      have hB0 := Lib.hid hB
      go_wp2_with fail
      refine (rSum_c _ _ _ _ _ hO hz hl1 (by rw [List.length_map]; exact hl2)).mono ?_
      rintro e w4 ⟨z2, rfl, hz2, h⟩
      have hR := hR.below h
      have hB := bt_ hB h
      clear h
      rw [← HN.out] at hz2
      clear hO hz
      obtain ⟨ad2, e2, c3⟩ := kb_at (Kd.C_below hr hB) k hlt
      injection e2 with e2
      subst e2
      rw [hx.out] at c3
      clear hx
      clear c1 c2
      have hR := hR.alloc (.cells #[.int .u8 (x.n : Int), .int .u8 1] 5)
      have hz2 := hz2.alloc (.cells #[.int .u8 (x.n : Int), .int .u8 1] 5)
      have hB1 := below_alloc hB (.cells #[.int .u8 (x.n : Int), .int .u8 1] 5)
      have hu := lit_b w4 [x, 1] #[.int .u8 (x.n : Int), .int .u8 1] 5 2 2 rfl rfl (by decide) (by decide)
      go_wp2_with fail
      refine (rMul2_c _ _ _ _ _ hR hu hl2 (by simp)).mono ?_
      rintro e w6 ⟨z3, rfl, hz3, h6⟩
      rw [← HS.out] at hz3
      have hz2 := hz2.below h6
      have hz3 := hz3.lower hB1
      have hB := bt_ hB1 h6
      clear hB1 hR hu h6
      go_wp2
      exact ⟨⟨k + 1, by omega, by go_num, hz2.rk, hz2.lower hB0.out, hz3, hB⟩, by simp [intOf]; try omega⟩
    · obtain rfl : k = l.length := by omega
      go_wp2
      go_ret
      exact ⟨_, rfl, hO, hB⟩
end Go.Proofs.Ytijeabhfddaoaaa
