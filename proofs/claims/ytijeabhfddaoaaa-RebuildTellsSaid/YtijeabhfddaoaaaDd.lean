/- The walk of deal.some. -/
import Derived.Test.YtijeabhfddaoaaaDc
import Derived.Laws.EntriesVeiled
namespace Go.Proofs.Ytijeabhfddaoaaa
set_option linter.unusedVariables false
open Go.RowKit Go.Proofs.YtijeabhfddaoaaaW.PrintWords Go.Proofs.Sh

theorem polys_len (p : Pl) (b tape : List F) : (polysOf p b tape).length = F.nS p.L.toNat b.length := by unfold polysOf; rw [List.length_map, List.length_range]
theorem polys_at (p : Pl) (b tape : List F) (j : Nat) (hj : j < F.nS p.L.toNat b.length) : (polysOf p b tape).getD j [] = F.dpoly (secretsAt p) (F.rowOf p.L.toNat b j) (F.tp p.T.toNat tape j) := by
  simp [polysOf, List.getD_eq_getElem?_getD, hj]
set_option maxRecDepth 100000 in
set_option maxHeartbeats 3200000 in
theorem dSome_ok (b : Nat) (p : Pl) (h : p.Ok) (v tv wv : Value) (blob tape : List F) (who : List Int) (w : World) (hF : IsField w b) (hv : Rb w v blob) (ht : Rb w tv tape) (hw : Ri w wv who) (hl : blob.length ≤ 240) (hwl : who.length ≤ 1000) (hlen : p.T * (F.nS p.L.toNat blob.length : Int) ≤ (tape.length : Int)) :
   Calls Try.prog 188 #[fp b, planV p, v, tv, wv] w fun e w' => ∃ g vs, e = .returned (.tuple #[.slice (some ⟨g, 0, none⟩) who.length who.length, .int .i64 0]) ∧ Rws w w' g who.length vs (fun k => F.dshare (polysOf p blob tape) (point (who.getD k 0))) ∧ Below w.heap.size w w' := by
  have eT : Hid ((p.T.toNat : Int) = p.T ∧ 1 ≤ p.T.toNat ∧ p.T.toNat ≤ 256 ∧ F.nS p.L.toNat blob.length * p.T.toNat ≤ tape.length) := Lib.hid (by
    have h1 := h.t; have h2 := h.l; have h3 := h.tl; have h4 := h.wn; have h5 := h.nl
    have e0 : (p.T.toNat : Int) = p.T := by omega
    have e := Int.natCast_mul p.T.toNat (F.nS p.L.toNat blob.length)
    rw [e0] at e
    exact ⟨e0, by omega, by omega, by rw [Nat.mul_comm]; omega⟩)
  have eS : Hid (F.nS p.L.toNat blob.length ≤ 240) := Lib.hid (Nat.le_trans (F.nS_le_len _ blob.length (by have := h.l; omega)) hl)
  have tc : decide ((tape.length : Int) < p.T * (F.nS p.L.toNat blob.length : Int)) = false := decide_eq_false (by omega)
  obtain ⟨Av, cv, rfl⟩ := rk_form hv
  obtain ⟨At, ct, rfl⟩ := rk_form ht
  obtain ⟨Aw, cw, rfl⟩ := rk_form hw
  have HP := ((Blk.new w (planC p) 33).alloc (.cells #[.slice At tape.length ct] 40)).alloc (.cells #[.slice Aw who.length cw] 36)
  have HT := (Blk.new' (w.alloc (.cells (planC p) 33)) #[.slice At tape.length ct] 40 (World.size_alloc _ _)).alloc (.cells #[.slice Aw who.length cw] 36)
  have HW := Blk.new' ((w.alloc (.cells (planC p) 33)).alloc (.cells #[.slice At tape.length ct] 40)) #[.slice Aw who.length cw] 36 (by rw [World.size_alloc, World.size_alloc])
  have hB0 := below_alloc (below_alloc (below_alloc (Below.refl w.heap.size w) (.cells (planC p) 33)) (.cells #[.slice At tape.length ct] 40)) (.cells #[.slice Aw who.length cw] 36)
  replace hF := hF.below hB0
  replace hv := hv.below hB0
  replace ht := ht.below hB0
  replace hw := hw.below hB0
  go_enter Try.func188, Try.ntmps188
  go_wp2_with fail
  generalize ((w.alloc (.cells (planC p) 33)).alloc (.cells #[.slice At tape.length ct] 40)).alloc (.cells #[.slice Aw who.length cw] 36) = w1 at *
  obtain ⟨c0, c1, c2, c3, c4, c5⟩ := cells6 HP
  go_wp2_with fail
  refine (sCut_ok p h _ blob _ hv hl).mono ?_
  rintro e w2 ⟨vR, rfl, oR, h2⟩
  replace HP := HP.below h2
  replace HT := HT.below h2
  replace HW := HW.below h2
  replace hF := hF.below h2
  replace hv := hv.below h2
  replace ht := ht.below h2
  replace hw := hw.below h2
  replace hB0 := bt_ hB0 h2
  replace oR := oR.rk
  clear h2 c0 c1 c2 c3 c4 c5
  obtain ⟨AR, cR, rfl⟩ := rk_form oR
  rw [F.cutOf_len] at oR ⊢
  go_wp2_with fail
  refine wp_region_tell [.v (.slice At tape.length ct), .v (.int .i64 (tape.length : Int)), .v (planV p), .v (.slice Av blob.length cv), .v (.int .i64 (blob.length : Int)), .v (.int .i64 (p.T * (F.nS p.L.toNat blob.length : Int))), .v (.bool false), .v (.bool false)] [([], none), ([(0, some 30)], none), ([], none), ([], none), ([(3, some 33)], none), ([(2, some 32), (4, some 34)], none), ([(1, some 31), (5, some 35)], none), ([(6, some 36)], none)] [(0, some 30), (1, some 31), (2, some 32), (3, some 33), (4, some 34), (5, some 35), (6, some 36), (7, some 29)] (by kernel_rfl) (by kernel_rfl) (by kernel_rfl) (by kernel_rfl) (by exact ⟨trivial, trivial, trivial, trivial, trivial, trivial, trivial, trivial, trivial⟩) ⟨?s0, ?s1, ?s2, ?s3, ?s4, ?s5, ?s6, ?s7, trivial⟩ ?hQ
  case s0 =>
    intro W hB K hK
    simp only [tellK, Act.put, List.setIfInBounds_toArray, List.set_cons_zero, List.set_cons_succ] at hK ⊢
    refine tell_do rfl ?_
    obtain ⟨c0, c1, c2, c3, c4, c5⟩ := cells6 (HP.below hB); have t0 := (HT.below hB).one
    go_simp
    exact hK _ (Below.refl _ _)
  case s1 =>
    intro W hB K hK
    simp only [tellK, Act.put, List.setIfInBounds_toArray, List.set_cons_zero, List.set_cons_succ] at hK ⊢
    refine tell_do rfl ?_
    obtain ⟨c0, c1, c2, c3, c4, c5⟩ := cells6 (HP.below hB); have t0 := (HT.below hB).one
    go_simp
    exact hK _ (Below.refl _ _)
  case s2 =>
    intro W hB K hK
    simp only [tellK, Act.put, List.setIfInBounds_toArray, List.set_cons_zero, List.set_cons_succ] at hK ⊢
    refine tell_do rfl ?_
    obtain ⟨c0, c1, c2, c3, c4, c5⟩ := cells6 (HP.below hB); have t0 := (HT.below hB).one
    go_simp
    exact hK _ (Below.refl _ _)
  case s3 =>
    intro W hB K hK
    simp only [tellK, Act.put, List.setIfInBounds_toArray, List.set_cons_zero, List.set_cons_succ] at hK ⊢
    refine tell_do rfl ?_
    obtain ⟨c0, c1, c2, c3, c4, c5⟩ := cells6 (HP.below hB); have t0 := (HT.below hB).one
    go_simp
    exact hK _ (Below.refl _ _)
  case s4 =>
    intro W hB K hK
    simp only [tellK, Act.put, List.setIfInBounds_toArray, List.set_cons_zero, List.set_cons_succ] at hK ⊢
    refine tell_do rfl ?_
    obtain ⟨c0, c1, c2, c3, c4, c5⟩ := cells6 (HP.below hB); have t0 := (HT.below hB).one
    go_simp
    exact hK _ (Below.refl _ _)
  case s5 =>
    intro W hB K hK
    simp only [tellK, Act.put, List.setIfInBounds_toArray, List.set_cons_zero, List.set_cons_succ] at hK ⊢
    refine tell_do rfl ?_
    obtain ⟨c0, c1, c2, c3, c4, c5⟩ := cells6 (HP.below hB); have t0 := (HT.below hB).one
    go_simp
    go_at_call 132; refine (dCost_ok p h blob.length hl _).mono ?_; rintro e w6 ⟨rfl, h6⟩; exact hK _ h6
  case s6 =>
    intro W hB K hK
    simp only [tellK, Act.put, List.setIfInBounds_toArray, List.set_cons_zero, List.set_cons_succ] at hK ⊢
    refine tell_do rfl ?_
    obtain ⟨c0, c1, c2, c3, c4, c5⟩ := cells6 (HP.below hB); have t0 := (HT.below hB).one
    go_simp
    exact hK _ (Below.refl _ _)
  case s7 =>
    intro W hB K hK
    simp only [tellK, Act.put, List.setIfInBounds_toArray, List.set_cons_zero, List.set_cons_succ] at hK ⊢
    refine tell_do rfl ?_
    obtain ⟨c0, c1, c2, c3, c4, c5⟩ := cells6 (HP.below hB); have t0 := (HT.below hB).one
    go_simp
    exact hK _ (Below.refl _ _)
  case hQ =>
    intro W hB
    simp only [tellGo, sayAt, List.getD_cons_zero, List.getD_cons_succ, Act.put, List.setIfInBounds_toArray, List.set_cons_zero, List.set_cons_succ]
    replace HP := HP.below hB
    replace HT := HT.below hB
    replace HW := HW.below hB
    replace hF := hF.below hB
    replace hv := hv.below hB
    replace ht := ht.below hB
    replace hw := hw.below hB
    replace hB0 := bt_ hB0 hB
    replace oR := oR.below hB
    clear hB
    obtain ⟨c0, c1, c2, c3, c4, c5⟩ := cells6 HP
    have q0 := HW.one
    go_wp2_with fail
    refine (newDealer_c b p h _ who _ hF hw hwl).mono ?_
    rintro e w4 ⟨gd, rfl, hD, h4⟩
    replace HP := HP.below h4
    replace HT := HT.below h4
    replace HW := HW.below h4
    replace hF := hF.below h4
    replace hv := hv.below h4
    replace ht := ht.below h4
    replace hw := hw.below h4
    replace hB0 := bt_ hB0 h4
    replace oR := oR.below h4
    clear h4 c0 c1 c2 c3 c4 c5 q0
    have q0 := HW.one
    have HN := Blk.new w4 #[.func (.func 208) #[.pointer (some ⟨gd, 0, none⟩)] #[]] 180
    have hNb := below_alloc (Below.refl w4.heap.size w4) (.cells #[.func (.func 208) #[.pointer (some ⟨gd, 0, none⟩)] #[]] 180)
    replace HP := HP.below hNb
    replace HT := HT.below hNb
    replace HW := HW.below hNb
    replace hF := hF.below hNb
    replace hv := hv.below hNb
    replace ht := ht.below hNb
    replace hw := hw.below hNb
    replace hB0 := bt_ hB0 hNb
    replace oR := oR.below hNb
    replace hD := hD.below hNb
    clear hNb
    have q0 := HW.one
    go_wp2_with ((with_reducible refine gate_dst (N := 44) rfl ?_); refine halt ?_)
    refine ⟨?_⟩
    generalize w4.alloc (.cells #[.func (.func 208) #[.pointer (some ⟨gd, 0, none⟩)] #[]] 180) = w9 at *
    generalize w4.heap.size = bv at *
    go_wp2_with ((with_reducible refine gate_dst (N := 44) rfl ?_); refine mk_raw rfl (N := 44) rfl 66 40 _ _ rfl who.length rfl rfl Try.underlying66 (.slice none 0 0) 24 infoR rfl (by decide) (by omega) ?_)
    have hRw := (Rws.made w9 w9 who.length (Nat.le_refl _)).below (below_alloc (Below.refl _ _) (.cells #[.slice (some ⟨w9.heap.size, 0, none⟩) who.length who.length] 66))
    have hBo := Blk.new' (w9.alloc (.cells (madeCells #[.slice none 0 0] who.length) 40)) #[.slice (some ⟨w9.heap.size, 0, none⟩) who.length who.length] 66 (World.size_alloc _ _)
    have hB9 := below_alloc (below_alloc (Below.refl w9.heap.size w9) (.cells (madeCells #[.slice none 0 0] who.length) 40)) (.cells #[.slice (some ⟨w9.heap.size, 0, none⟩) who.length who.length] 66)
    generalize (w9.alloc (.cells (madeCells #[.slice none 0 0] who.length) 40)).alloc (.cells #[.slice (some ⟨w9.heap.size, 0, none⟩) who.length who.length] 66) = wi at *
    have hE : Hid (SEnv w9 (w.heap.size + 1 + 1) bv (w.heap.size + 1) w.heap.size gd b p.T.toNat _ _ (secretsAt p) who tape) := Lib.hid ⟨HW.one, HN.one, HT.one, by rw [eT.out.1]; exact HP.cell 1 _ rfl, hD, hw, ht⟩
    clear HP HT HW HN hD hF hv ht hw q0
    go_loopw [17, 18, 48] (fun _ _ i wr => ∃ (j : Nat) (vs : Nat → Value), j ≤ F.nS p.L.toNat blob.length ∧ i = .int .i64 j ∧ Rws w9 wr w9.heap.size who.length vs (fun k => F.dshare ((polysOf p blob tape).take j) (point (who.getD k 0))) ∧ Blk wr (w9.heap.size + 1) #[.slice (some ⟨w9.heap.size, 0, none⟩) who.length who.length] 66 ∧ Below w9.heap.size w9 wr) (fun _ _ i _ => F.nS p.L.toNat blob.length - (intOf i).toNat)
    case atStart => exact ⟨0, _, by omega, rfl, hRw, hBo, hB9⟩
    case round =>
      clear hRw hBo hB9
      obtain ⟨j, vs, hj, rfl, hR, hO, hB⟩ := hrel
      by_cases hlt : j < F.nS p.L.toNat blob.length
      · obtain ⟨ad, u5, e1, d0, hu5⟩ := kbb_at (rk_C oR) j (by rw [F.cutOf_len]; exact hlt)
        subst e1
        rw [F.cutOf_at _ _ _ _ hlt] at hu5
        have d0 := pw_cell_below hB d0
        obtain ⟨A5, n5, rfl⟩ := rk_form hu5
        have hji : (j : Int) < (F.nS p.L.toNat blob.length : Int) := by omega
        have hl2 : (j + 1) * p.T.toNat ≤ tape.length := Nat.le_trans (Nat.mul_le_mul_right _ hlt) eT.out.2.2.2
        have hll : ∀ k, (F.dshare ((polysOf p blob tape).take j) (point (who.getD k 0))).length ≤ 1000 := fun k => by rw [F.dshare_len, List.length_take]; have := eS.out; omega
        have hst : Hid (∀ x, F.dshare ((polysOf p blob tape).take j) x ++ [dval (secretsAt p) (F.rowOf p.L.toNat blob j) (F.tp p.T.toNat tape j) x] = F.dshare ((polysOf p blob tape).take (j + 1)) x) := Lib.hid (fun x => by
          rw [F.dshare_take _ _ _ (by rw [polys_len]; exact hlt), polys_at p blob tape j hlt, F.ev_dpoly _ _ _ _ (L_small p h)]
          rfl)
        have hj240 : j < 240 := Nat.lt_of_lt_of_le hlt eS.out
        clear hlt hj
        replace hu5 := Lib.hid hu5
        replace hl2 := Lib.hid hl2
        replace hll := Lib.hid hll
        generalize F.nS p.L.toNat blob.length = S at *
        generalize F.rowOf p.L.toNat blob j = row at *
        go_wp2_with fail
        refine (dEach_c w9 wr (w.heap.size + 1 + 1) (w9.heap.size + 1) bv (w.heap.size + 1) w.heap.size gd w9.heap.size b p.T.toNat _ _ _ (secretsAt p) who tape row vs _ j hB hE.out hO (by omega) hR hu5.out hwl eT.out.2.1 eT.out.2.2.1 hj240 hl2.out hll.out).mono ?_
        rintro e w5 ⟨rfl, vs', hR', hO', hB'⟩
        go_wp2
        exact ⟨⟨j + 1, vs', by omega, by go_num, hR'.congr (fun k _ => hst.out _), hO', hB'⟩, by simp [intOf]; try omega⟩
      · obtain rfl : j = F.nS p.L.toNat blob.length := by omega
        rw [List.take_of_length_le (by rw [polys_len]; exact Nat.le_refl _)] at hR
        have o0 := hO.one
        go_wp2
        go_ret2
        exact ⟨_, vs, rfl, hR.lower hB0, bt_ hB0 hB⟩
end Go.Proofs.Ytijeabhfddaoaaa
