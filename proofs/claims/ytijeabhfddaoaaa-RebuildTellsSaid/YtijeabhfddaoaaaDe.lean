/- The walks of deal.some (refused), deal.Deal, deal.Share. -/
import Derived.Test.YtijeabhfddaoaaaDd
namespace Go.Proofs.Ytijeabhfddaoaaa
set_option linter.unusedVariables false
open Go.RowKit Go.Proofs.YtijeabhfddaoaaaW.PrintWords Go.Proofs.Sh


/-- What is wrong with a blob and a tape. -/
def dealBad (p : Pl) (blob tape : List F) (c : Int) : Prop :=
  (¬ p.Ok ∧ c = 1) ∨ (p.Ok ∧ ¬ blob.length ≤ 240 ∧ c = 7) ∨ (p.Ok ∧ blob.length ≤ 240 ∧ (tape.length : Int) < p.T * (F.nS p.L.toNat blob.length : Int) ∧ c = 12)
set_option maxRecDepth 100000 in
set_option maxHeartbeats 3200000 in
theorem dSome_err (fv : Value) (p : Pl) (c : Int) (v tv wv : Value) (blob tape : List F) (who : List Int) (w : World) (hv : Rb w v blob) (ht : Rb w tv tape) (hw : Ri w wv who) (hc : dealBad p blob tape c) :
   Calls Try.prog 188 #[fv, planV p, v, tv, wv] w fun e w' => e = .returned (.tuple #[.slice none 0 0, .int .i64 c]) ∧ Below w.heap.size w w' := by
  rcases hc with ⟨h, rfl⟩ | ⟨h, hl, rfl⟩ | ⟨h, hl, hlen, rfl⟩
  · obtain ⟨Av, cv, rfl⟩ := rk_form hv
    obtain ⟨At, ct, rfl⟩ := rk_form ht
    obtain ⟨Aw, cw, rfl⟩ := rk_form hw
    have HP := ((Blk.new w (planC p) 33).alloc (.cells #[.slice At tape.length ct] 40)).alloc (.cells #[.slice Aw who.length cw] 36)
    have HT := (Blk.new' (w.alloc (.cells (planC p) 33)) #[.slice At tape.length ct] 40 (World.size_alloc _ _)).alloc (.cells #[.slice Aw who.length cw] 36)
    have HW := Blk.new' ((w.alloc (.cells (planC p) 33)).alloc (.cells #[.slice At tape.length ct] 40)) #[.slice Aw who.length cw] 36 (by rw [World.size_alloc, World.size_alloc])
    have hB0 := below_alloc (below_alloc (below_alloc (Below.refl w.heap.size w) (.cells (planC p) 33)) (.cells #[.slice At tape.length ct] 40)) (.cells #[.slice Aw who.length cw] 36)
    replace hv := hv.below hB0
    replace ht := ht.below hB0
    replace hw := hw.below hB0
    go_enter Try.func188, Try.ntmps188
    go_wp2_with fail
    generalize ((w.alloc (.cells (planC p) 33)).alloc (.cells #[.slice At tape.length ct] 40)).alloc (.cells #[.slice Aw who.length cw] 36) = w1 at *
    obtain ⟨c0, c1, c2, c3, c4, c5⟩ := cells6 HP
    go_wp2_with fail
    refine (sCut_no p h _ _).mono ?_
    rintro e w2 ⟨rfl, h2⟩
    go_wp2
    go_ret2
    exact ⟨rfl, bt_ hB0 h2⟩
  · obtain ⟨Av, cv, rfl⟩ := rk_form hv
    obtain ⟨At, ct, rfl⟩ := rk_form ht
    obtain ⟨Aw, cw, rfl⟩ := rk_form hw
    have HP := ((Blk.new w (planC p) 33).alloc (.cells #[.slice At tape.length ct] 40)).alloc (.cells #[.slice Aw who.length cw] 36)
    have HT := (Blk.new' (w.alloc (.cells (planC p) 33)) #[.slice At tape.length ct] 40 (World.size_alloc _ _)).alloc (.cells #[.slice Aw who.length cw] 36)
    have HW := Blk.new' ((w.alloc (.cells (planC p) 33)).alloc (.cells #[.slice At tape.length ct] 40)) #[.slice Aw who.length cw] 36 (by rw [World.size_alloc, World.size_alloc])
    have hB0 := below_alloc (below_alloc (below_alloc (Below.refl w.heap.size w) (.cells (planC p) 33)) (.cells #[.slice At tape.length ct] 40)) (.cells #[.slice Aw who.length cw] 36)
    replace hv := hv.below hB0
    replace ht := ht.below hB0
    replace hw := hw.below hB0
    go_enter Try.func188, Try.ntmps188
    go_wp2_with fail
    generalize ((w.alloc (.cells (planC p) 33)).alloc (.cells #[.slice At tape.length ct] 40)).alloc (.cells #[.slice Aw who.length cw] 36) = w1 at *
    obtain ⟨c0, c1, c2, c3, c4, c5⟩ := cells6 HP
    go_wp2_with fail
    refine (sCut_big p h _ blob _ hv hl).mono ?_
    rintro e w2 ⟨rfl, h2⟩
    go_wp2
    go_ret2
    exact ⟨rfl, bt_ hB0 h2⟩
  · have tc : decide ((tape.length : Int) < p.T * (F.nS p.L.toNat blob.length : Int)) = true := decide_eq_true hlen
    obtain ⟨Av, cv, rfl⟩ := rk_form hv
    obtain ⟨At, ct, rfl⟩ := rk_form ht
    obtain ⟨Aw, cw, rfl⟩ := rk_form hw
    have HP := ((Blk.new w (planC p) 33).alloc (.cells #[.slice At tape.length ct] 40)).alloc (.cells #[.slice Aw who.length cw] 36)
    have HT := (Blk.new' (w.alloc (.cells (planC p) 33)) #[.slice At tape.length ct] 40 (World.size_alloc _ _)).alloc (.cells #[.slice Aw who.length cw] 36)
    have HW := Blk.new' ((w.alloc (.cells (planC p) 33)).alloc (.cells #[.slice At tape.length ct] 40)) #[.slice Aw who.length cw] 36 (by rw [World.size_alloc, World.size_alloc])
    have hB0 := below_alloc (below_alloc (below_alloc (Below.refl w.heap.size w) (.cells (planC p) 33)) (.cells #[.slice At tape.length ct] 40)) (.cells #[.slice Aw who.length cw] 36)
    replace hv := hv.below hB0
    replace ht := ht.below hB0
    replace hw := hw.below hB0
    go_enter Try.func188, Try.ntmps188
    go_wp2_with fail
    generalize ((w.alloc (.cells (planC p) 33)).alloc (.cells #[.slice At tape.length ct] 40)).alloc (.cells #[.slice Aw who.length cw] 36) = w1 at *
    obtain ⟨c0, c1, c2, c3, c4, c5⟩ := cells6 HP
    go_wp2_with fail
    refine (sCut_ok p h _ blob _ hv hl).mono ?_
    rintro e w2 ⟨vR, rfl, oR, h2⟩
    replace HP := HP.below h2
    replace HT := HT.below h2
    replace HW := HW.below h2
    replace hv := hv.below h2
    replace ht := ht.below h2
    replace hw := hw.below h2
    replace hB0 := bt_ hB0 h2
    clear h2 c0 c1 c2 c3 c4 c5
    obtain ⟨AR, cR, rfl⟩ := rk_form oR.rk
    go_wp2_with fail
    refine wp_region_tell [.v (.slice At tape.length ct), .v (.int .i64 (tape.length : Int)), .v (planV p), .v (.slice Av blob.length cv), .v (.int .i64 (blob.length : Int)), .v (.int .i64 (p.T * (F.nS p.L.toNat blob.length : Int))), .v (.bool true), .v (.bool true)] [([], none), ([(0, some 30)], none), ([], none), ([], none), ([(3, some 33)], none), ([(2, some 32), (4, some 34)], none), ([(1, some 31), (5, some 35)], none), ([(6, some 36)], none)] [(0, some 30), (1, some 31), (2, some 32), (3, some 33), (4, some 34), (5, some 35), (6, some 36), (7, some 29)] (by kernel_rfl) (by kernel_rfl) (by kernel_rfl) (by kernel_rfl) (by exact ⟨trivial, trivial, trivial, trivial, trivial, trivial, trivial, trivial, trivial⟩) ⟨?s0, ?s1, ?s2, ?s3, ?s4, ?s5, ?s6, ?s7, trivial⟩ ?hQ
    case s0 =>
      intro W hB K hK
      simp only [tellK, Act.put, List.setIfInBounds_toArray, List.set_cons_zero, List.set_cons_succ] at hK ⊢
      refine tell_do rfl ?_
      obtain ⟨c0, c1, c2, c3, c4, c5⟩ := cells6 (HP.below hB); have t0 := (HT.below hB).one
      go_simp
      exact hK _ (Below.refl _ _)
    case s1 =>
      intro W hB K hK
      simp only [tellK, Act.put, List.setIfInBounds_toArray, List.set_cons_zero, List.set_cons_succ] at hK ⊢
      refine tell_do rfl ?_
      obtain ⟨c0, c1, c2, c3, c4, c5⟩ := cells6 (HP.below hB); have t0 := (HT.below hB).one
      go_simp
      exact hK _ (Below.refl _ _)
    case s2 =>
      intro W hB K hK
      simp only [tellK, Act.put, List.setIfInBounds_toArray, List.set_cons_zero, List.set_cons_succ] at hK ⊢
      refine tell_do rfl ?_
      obtain ⟨c0, c1, c2, c3, c4, c5⟩ := cells6 (HP.below hB); have t0 := (HT.below hB).one
      go_simp
      exact hK _ (Below.refl _ _)
    case s3 =>
      intro W hB K hK
      simp only [tellK, Act.put, List.setIfInBounds_toArray, List.set_cons_zero, List.set_cons_succ] at hK ⊢
      refine tell_do rfl ?_
      obtain ⟨c0, c1, c2, c3, c4, c5⟩ := cells6 (HP.below hB); have t0 := (HT.below hB).one
      go_simp
      exact hK _ (Below.refl _ _)
    case s4 =>
      intro W hB K hK
      simp only [tellK, Act.put, List.setIfInBounds_toArray, List.set_cons_zero, List.set_cons_succ] at hK ⊢
      refine tell_do rfl ?_
      obtain ⟨c0, c1, c2, c3, c4, c5⟩ := cells6 (HP.below hB); have t0 := (HT.below hB).one
      go_simp
      exact hK _ (Below.refl _ _)
    case s5 =>
      intro W hB K hK
      simp only [tellK, Act.put, List.setIfInBounds_toArray, List.set_cons_zero, List.set_cons_succ] at hK ⊢
      refine tell_do rfl ?_
      obtain ⟨c0, c1, c2, c3, c4, c5⟩ := cells6 (HP.below hB); have t0 := (HT.below hB).one
      go_simp
      go_at_call 132; refine (dCost_ok p h blob.length hl _).mono ?_; rintro e w6 ⟨rfl, h6⟩; exact hK _ h6
    case s6 =>
      intro W hB K hK
      simp only [tellK, Act.put, List.setIfInBounds_toArray, List.set_cons_zero, List.set_cons_succ] at hK ⊢
      refine tell_do rfl ?_
      obtain ⟨c0, c1, c2, c3, c4, c5⟩ := cells6 (HP.below hB); have t0 := (HT.below hB).one
      go_simp
      exact hK _ (Below.refl _ _)
    case s7 =>
      intro W hB K hK
      simp only [tellK, Act.put, List.setIfInBounds_toArray, List.set_cons_zero, List.set_cons_succ] at hK ⊢
      refine tell_do rfl ?_
      obtain ⟨c0, c1, c2, c3, c4, c5⟩ := cells6 (HP.below hB); have t0 := (HT.below hB).one
      go_simp
      exact hK _ (Below.refl _ _)
    case hQ =>
      intro W hB
      simp only [tellGo, sayAt, List.getD_cons_zero, List.getD_cons_succ, Act.put, List.setIfInBounds_toArray, List.set_cons_zero, List.set_cons_succ]
      go_wp2
      go_ret2
      exact ⟨rfl, bt_ hB0 hB⟩
/-- Rows of one's own, as a saying. -/
def isRw (w0 : World) (n : Nat) (ls : Nat → List F) : Value → World → Prop := fun v W => ∃ g vs, v = .slice (some ⟨g, 0, none⟩) n n ∧ Rws w0 W g n vs ls
theorem last_Rw (w0 : World) (n : Nat) (ls : Nat → List F) : Lasts (isRw w0 n ls) := fun _ _ _ ⟨g, vs, e, h⟩ hB => ⟨g, vs, e, h.below hB⟩
def isTRw (w0 : World) (n : Nat) (ls : Nat → List F) : Value → World → Prop := fun v W => ∃ g vs, v = .tuple #[.slice (some ⟨g, 0, none⟩) n n, .int .i64 0] ∧ Rws w0 W g n vs ls
theorem last_TRw (w0 : World) (n : Nat) (ls : Nat → List F) : Lasts (isTRw w0 n ls) := fun _ _ _ ⟨g, vs, e, h⟩ hB => ⟨g, vs, e, h.below hB⟩
/-- All shares of a blob. -/
def shs (p : Pl) (blob tape : List F) : Nat → List F := fun k => F.dshare (polysOf p blob tape) (point ((k : Int) + 1))
theorem all_getD (p : Pl) (k : Nat) (hk : k < p.N.toNat) : (allOf p).getD k 0 = (k : Int) + 1 := by
  simp [allOf, List.getD_eq_getElem?_getD, hk]
set_option maxRecDepth 100000 in
set_option maxHeartbeats 3200000 in
theorem dDeal_ok (b : Nat) (p : Pl) (h : p.Ok) (v tv : Value) (blob tape : List F) (w : World) (hF : IsField w b) (hv : Rb w v blob) (ht : Rb w tv tape) (hl : blob.length ≤ 240) (hlen : p.T * (F.nS p.L.toNat blob.length : Int) ≤ (tape.length : Int)) :
   Calls Try.prog 126 #[fp b, planV p, v, tv] w fun e w' => ∃ g vs, e = .returned (.tuple #[.slice (some ⟨g, 0, none⟩) p.N.toNat p.N.toNat, .int .i64 0]) ∧ Rws w w' g p.N.toNat vs (shs p blob tape) ∧ Below w.heap.size w w' := by
  have hal : Hid ((allOf p).length ≤ 1000) := Lib.hid (by rw [all_len]; have := h.nl; have := h.l; omega)
  have hcg : Hid (∀ k, k < p.N.toNat → F.dshare (polysOf p blob tape) (point ((allOf p).getD k 0)) = shs p blob tape k) := Lib.hid (fun k hk => by rw [all_getD p k hk]; rfl)
  obtain ⟨Av, cv, rfl⟩ := rk_form hv
  obtain ⟨At, ct, rfl⟩ := rk_form ht
  have HP := Blk.new w (planC p) 33
  have hB0 := below_alloc (Below.refl w.heap.size w) (.cells (planC p) 33)
  replace hv := hv.below hB0
  replace ht := ht.below hB0
  replace hF := hF.below hB0
  go_enter Try.func126, Try.ntmps126
  go_wp2_with fail
  refine wp_region_tell [.v (fp b), .v (planV p), .v (.slice Av blob.length cv), .v (.slice At tape.length ct), .v (planV p), .p (isI (allOf p)), .p (isTRw w p.N.toNat (shs p blob tape)), .p (isRw w p.N.toNat (shs p blob tape)), .v (.int .i64 0), .p (isRw w p.N.toNat (shs p blob tape)), .v (.int .i64 0)] [([], none), ([], none), ([], none), ([], none), ([], none), ([(4, some 14)], none), ([(0, some 10), (1, some 11), (2, some 12), (3, some 13), (5, some 15)], none), ([(6, some 16)], none), ([(6, some 16)], none), ([(7, some 17)], none), ([(8, some 18)], none)] [(0, some 10), (1, some 11), (2, some 12), (3, some 13), (4, some 14), (5, some 15), (6, some 16), (7, some 17), (8, some 18), (9, some 8), (10, some 9)] (by kernel_rfl) (by kernel_rfl) (by kernel_rfl) (by kernel_rfl) (by exact ⟨trivial, trivial, trivial, trivial, trivial, last_I _, last_TRw _ _ _, last_Rw _ _ _, trivial, last_Rw _ _ _, trivial, trivial⟩) ⟨?s0, ?s1, ?s2, ?s3, ?s4, ?s5, ?s6, ?s7, ?s8, ?s9, ?s10, trivial⟩ ?hQ
  case s0 =>
    intro W hB K hK
    simp only [tellK, Act.put, List.setIfInBounds_toArray, List.set_cons_zero, List.set_cons_succ] at hK ⊢
    refine tell_do rfl ?_
    obtain ⟨c0, c1, c2, c3, c4, c5⟩ := cells6 (HP.below hB)
    go_simp
    exact hK _ (Below.refl _ _)
  case s1 =>
    intro W hB K hK
    simp only [tellK, Act.put, List.setIfInBounds_toArray, List.set_cons_zero, List.set_cons_succ] at hK ⊢
    refine tell_do rfl ?_
    obtain ⟨c0, c1, c2, c3, c4, c5⟩ := cells6 (HP.below hB)
    go_simp
    exact hK _ (Below.refl _ _)
  case s2 =>
    intro W hB K hK
    simp only [tellK, Act.put, List.setIfInBounds_toArray, List.set_cons_zero, List.set_cons_succ] at hK ⊢
    refine tell_do rfl ?_
    obtain ⟨c0, c1, c2, c3, c4, c5⟩ := cells6 (HP.below hB)
    go_simp
    exact hK _ (Below.refl _ _)
  case s3 =>
    intro W hB K hK
    simp only [tellK, Act.put, List.setIfInBounds_toArray, List.set_cons_zero, List.set_cons_succ] at hK ⊢
    refine tell_do rfl ?_
    obtain ⟨c0, c1, c2, c3, c4, c5⟩ := cells6 (HP.below hB)
    go_simp
    exact hK _ (Below.refl _ _)
  case s4 =>
    intro W hB K hK
    simp only [tellK, Act.put, List.setIfInBounds_toArray, List.set_cons_zero, List.set_cons_succ] at hK ⊢
    refine tell_do rfl ?_
    obtain ⟨c0, c1, c2, c3, c4, c5⟩ := cells6 (HP.below hB)
    go_simp
    exact hK _ (Below.refl _ _)
  case s5 =>
    intro W hB K hK
    simp only [tellK, Act.put, List.setIfInBounds_toArray, List.set_cons_zero, List.set_cons_succ] at hK ⊢
    refine tell_do rfl ?_
    obtain ⟨c0, c1, c2, c3, c4, c5⟩ := cells6 (HP.below hB)
    go_simp
    go_at_call 50; refine (all_yes p h _).mono ?_; rintro e w6 ⟨z, rfl, oA, h6⟩; exact hK _ _ oA.rk h6
  case s6 =>
    intro W hB v5 h5 K hK
    replace h5 : Ri W v5 (allOf p) := h5
    simp only [tellK, Act.put, List.setIfInBounds_toArray, List.set_cons_zero, List.set_cons_succ] at hK ⊢
    refine tell_do rfl ?_
    obtain ⟨c0, c1, c2, c3, c4, c5⟩ := cells6 (HP.below hB)
    go_simp
    go_at_call 188; refine (dSome_ok b p h _ _ _ blob tape (allOf p) _ (hF.below hB) (hv.below hB) (ht.below hB) h5 hl hal.out hlen).mono ?_; rintro e w6 ⟨g, vs, rfl, hR, h6⟩; rw [all_len] at hR ⊢; exact hK _ _ ⟨g, vs, rfl, (hR.lower (bt_ hB0 hB)).congr hcg.out⟩ h6
  case s7 =>
    intro W hB v6 h6 K hK
    simp only [tellK, Act.put, List.setIfInBounds_toArray, List.set_cons_zero, List.set_cons_succ] at hK ⊢
    refine tell_do rfl ?_
    obtain ⟨c0, c1, c2, c3, c4, c5⟩ := cells6 (HP.below hB)
    obtain ⟨g, vs, rfl, hR⟩ := h6; go_simp; exact hK _ _ ⟨g, vs, rfl, hR⟩ (Below.refl _ _)
  case s8 =>
    intro W hB v6 h6 K hK
    simp only [tellK, Act.put, List.setIfInBounds_toArray, List.set_cons_zero, List.set_cons_succ] at hK ⊢
    refine tell_do rfl ?_
    obtain ⟨c0, c1, c2, c3, c4, c5⟩ := cells6 (HP.below hB)
    obtain ⟨g, vs, rfl, hR⟩ := h6; go_simp; exact hK _ (Below.refl _ _)
  case s9 =>
    intro W hB v7 h7 K hK
    simp only [tellK, Act.put, List.setIfInBounds_toArray, List.set_cons_zero, List.set_cons_succ] at hK ⊢
    refine tell_do rfl ?_
    obtain ⟨c0, c1, c2, c3, c4, c5⟩ := cells6 (HP.below hB)
    obtain ⟨g, vs, rfl, hR⟩ := h7; go_simp; exact hK _ _ ⟨g, vs, rfl, hR⟩ (Below.refl _ _)
  case s10 =>
    intro W hB K hK
    simp only [tellK, Act.put, List.setIfInBounds_toArray, List.set_cons_zero, List.set_cons_succ] at hK ⊢
    refine tell_do rfl ?_
    obtain ⟨c0, c1, c2, c3, c4, c5⟩ := cells6 (HP.below hB)
    go_simp
    exact hK _ (Below.refl _ _)
  case hQ =>
    intro W hB v5 h5 v6 h6 v7 h7 v9 h9
    replace h5 : Ri W v5 (allOf p) := h5
    simp only [tellGo, sayAt, List.getD_cons_zero, List.getD_cons_succ, Act.put, List.setIfInBounds_toArray, List.set_cons_zero, List.set_cons_succ]
    obtain ⟨g, vs, rfl, hR⟩ := h9
    go_wp2
    go_ret2
    exact ⟨g, vs, rfl, hR, bt_ hB0 hB⟩
set_option maxRecDepth 100000 in
set_option maxHeartbeats 3200000 in
theorem dDeal_err (fv : Value) (p : Pl) (c : Int) (v tv : Value) (blob tape : List F) (w : World) (hv : Rb w v blob) (ht : Rb w tv tape) (hc : dealBad p blob tape c) :
   Calls Try.prog 126 #[fv, planV p, v, tv] w fun e w' => e = .returned (.tuple #[.slice none 0 0, .int .i64 c]) ∧ Below w.heap.size w w' := by
  obtain ⟨l, hAll⟩ : ∃ l : List Int, ∀ W : World, Calls Try.prog 50 #[planV p] W fun e W' => ∃ v, e = .returned v ∧ Ri W' v l ∧ Below W.heap.size W W' := by
    by_cases h : p.Ok
    · exact ⟨allOf p, fun W => (all_yes p h W).mono fun e W' ⟨v, h1, h2, h3⟩ => ⟨v, h1, h2.rk, h3⟩⟩
    · exact ⟨[], fun W => (all_no p h W).mono fun e W' ⟨h1, h3⟩ => ⟨_, h1, Rk.nil _ _, h3⟩⟩
  replace hAll := Lib.hid hAll
  replace hc := Lib.hid hc
  obtain ⟨Av, cv, rfl⟩ := rk_form hv
  obtain ⟨At, ct, rfl⟩ := rk_form ht
  have HP := Blk.new w (planC p) 33
  have hB0 := below_alloc (Below.refl w.heap.size w) (.cells (planC p) 33)
  replace hv := hv.below hB0
  replace ht := ht.below hB0
  go_enter Try.func126, Try.ntmps126
  go_wp2_with fail
  refine wp_region_tell [.v (fv), .v (planV p), .v (.slice Av blob.length cv), .v (.slice At tape.length ct), .v (planV p), .p (isI l), .v (.tuple #[.slice none 0 0, .int .i64 c]), .v (.slice none 0 0), .v (.int .i64 c), .v (.slice none 0 0), .v (.int .i64 c)] [([], none), ([], none), ([], none), ([], none), ([], none), ([(4, some 14)], none), ([(0, some 10), (1, some 11), (2, some 12), (3, some 13), (5, some 15)], none), ([(6, some 16)], none), ([(6, some 16)], none), ([(7, some 17)], none), ([(8, some 18)], none)] [(0, some 10), (1, some 11), (2, some 12), (3, some 13), (4, some 14), (5, some 15), (6, some 16), (7, some 17), (8, some 18), (9, some 8), (10, some 9)] (by kernel_rfl) (by kernel_rfl) (by kernel_rfl) (by kernel_rfl) (by exact ⟨trivial, trivial, trivial, trivial, trivial, last_I _, trivial, trivial, trivial, trivial, trivial, trivial⟩) ⟨?s0, ?s1, ?s2, ?s3, ?s4, ?s5, ?s6, ?s7, ?s8, ?s9, ?s10, trivial⟩ ?hQ
  case s0 =>
    intro W hB K hK
    simp only [tellK, Act.put, List.setIfInBounds_toArray, List.set_cons_zero, List.set_cons_succ] at hK ⊢
    refine tell_do rfl ?_
    obtain ⟨c0, c1, c2, c3, c4, c5⟩ := cells6 (HP.below hB)
    go_simp
    exact hK _ (Below.refl _ _)
  case s1 =>
    intro W hB K hK
    simp only [tellK, Act.put, List.setIfInBounds_toArray, List.set_cons_zero, List.set_cons_succ] at hK ⊢
    refine tell_do rfl ?_
    obtain ⟨c0, c1, c2, c3, c4, c5⟩ := cells6 (HP.below hB)
    go_simp
    exact hK _ (Below.refl _ _)
  case s2 =>
    intro W hB K hK
    simp only [tellK, Act.put, List.setIfInBounds_toArray, List.set_cons_zero, List.set_cons_succ] at hK ⊢
    refine tell_do rfl ?_
    obtain ⟨c0, c1, c2, c3, c4, c5⟩ := cells6 (HP.below hB)
    go_simp
    exact hK _ (Below.refl _ _)
  case s3 =>
    intro W hB K hK
    simp only [tellK, Act.put, List.setIfInBounds_toArray, List.set_cons_zero, List.set_cons_succ] at hK ⊢
    refine tell_do rfl ?_
    obtain ⟨c0, c1, c2, c3, c4, c5⟩ := cells6 (HP.below hB)
    go_simp
    exact hK _ (Below.refl _ _)
  case s4 =>
    intro W hB K hK
    simp only [tellK, Act.put, List.setIfInBounds_toArray, List.set_cons_zero, List.set_cons_succ] at hK ⊢
    refine tell_do rfl ?_
    obtain ⟨c0, c1, c2, c3, c4, c5⟩ := cells6 (HP.below hB)
    go_simp
    exact hK _ (Below.refl _ _)
  case s5 =>
    intro W hB K hK
    simp only [tellK, Act.put, List.setIfInBounds_toArray, List.set_cons_zero, List.set_cons_succ] at hK ⊢
    refine tell_do rfl ?_
    obtain ⟨c0, c1, c2, c3, c4, c5⟩ := cells6 (HP.below hB)
    go_simp
    go_at_call 50; refine (hAll.out _).mono ?_; rintro e w6 ⟨z, rfl, oA, h6⟩; exact hK _ _ oA h6
  case s6 =>
    intro W hB v5 h5 K hK
    replace h5 : Ri W v5 l := h5
    simp only [tellK, Act.put, List.setIfInBounds_toArray, List.set_cons_zero, List.set_cons_succ] at hK ⊢
    refine tell_do rfl ?_
    obtain ⟨c0, c1, c2, c3, c4, c5⟩ := cells6 (HP.below hB)
    go_simp
    go_at_call 188; refine (dSome_err fv p c _ _ _ blob tape l _ (hv.below hB) (ht.below hB) h5 hc.out).mono ?_; rintro e w6 ⟨rfl, h6⟩; exact hK _ h6
  case s7 =>
    intro W hB K hK
    simp only [tellK, Act.put, List.setIfInBounds_toArray, List.set_cons_zero, List.set_cons_succ] at hK ⊢
    refine tell_do rfl ?_
    obtain ⟨c0, c1, c2, c3, c4, c5⟩ := cells6 (HP.below hB)
    go_simp
    exact hK _ (Below.refl _ _)
  case s8 =>
    intro W hB K hK
    simp only [tellK, Act.put, List.setIfInBounds_toArray, List.set_cons_zero, List.set_cons_succ] at hK ⊢
    refine tell_do rfl ?_
    obtain ⟨c0, c1, c2, c3, c4, c5⟩ := cells6 (HP.below hB)
    go_simp
    exact hK _ (Below.refl _ _)
  case s9 =>
    intro W hB K hK
    simp only [tellK, Act.put, List.setIfInBounds_toArray, List.set_cons_zero, List.set_cons_succ] at hK ⊢
    refine tell_do rfl ?_
    obtain ⟨c0, c1, c2, c3, c4, c5⟩ := cells6 (HP.below hB)
    go_simp
    exact hK _ (Below.refl _ _)
  case s10 =>
    intro W hB K hK
    simp only [tellK, Act.put, List.setIfInBounds_toArray, List.set_cons_zero, List.set_cons_succ] at hK ⊢
    refine tell_do rfl ?_
    obtain ⟨c0, c1, c2, c3, c4, c5⟩ := cells6 (HP.below hB)
    go_simp
    exact hK _ (Below.refl _ _)
  case hQ =>
    intro W hB v5 h5
    replace h5 : Ri W v5 l := h5
    simp only [tellGo, sayAt, List.getD_cons_zero, List.getD_cons_succ, Act.put, List.setIfInBounds_toArray, List.set_cons_zero, List.set_cons_succ]
    go_wp2
    go_ret2
    exact ⟨rfl, bt_ hB0 hB⟩
set_option maxRecDepth 100000 in
set_option maxHeartbeats 3200000 in
theorem dShare_out (fv : Value) (p : Pl) (h : p.Ok) (v tv : Value) (i : Int) (hi : ¬ (1 ≤ i ∧ i ≤ p.N)) (w : World) :
   Calls Try.prog 131 #[fv, planV p, v, tv, .int .i64 i] w fun e w' => e = .returned (.tuple #[.slice none 0 0, .int .i64 2]) ∧ Below w.heap.size w w' := by
  have hd := Lib.hid (decide_eq_false hi)
  have HP := Blk.new w (planC p) 33
  have hB0 := below_alloc (Below.refl w.heap.size w) (.cells (planC p) 33)
  obtain ⟨c0, c1, c2, c3, c4, c5⟩ := cells6 HP
  clear hi
  go_enter Try.func131, Try.ntmps131
  go_wp2_with fail
  refine (right_yes p h _).mono ?_
  rintro e w1 ⟨rfl, h1⟩
  obtain ⟨c0, c1, c2, c3, c4, c5⟩ := cells6 (HP.below h1)
  go_wp2_with fail
  refine (is_yes p h i _).mono ?_
  rintro e w2 ⟨rfl, h2⟩
  rw [hd.out]
  go_wp2
  go_ret2
  exact ⟨rfl, bt_ (bt_ hB0 h1) h2⟩
set_option maxRecDepth 100000 in
set_option maxHeartbeats 3200000 in
theorem dShare_err (fv : Value) (p : Pl) (c : Int) (v tv : Value) (blob tape : List F) (i : Int) (hi : p.Ok → 1 ≤ i ∧ i ≤ p.N) (w : World) (hv : Rb w v blob) (ht : Rb w tv tape) (hc : dealBad p blob tape c) :
   Calls Try.prog 131 #[fv, planV p, v, tv, .int .i64 i] w fun e w' => e = .returned (.tuple #[.slice none 0 0, .int .i64 c]) ∧ Below w.heap.size w w' := by
  have tc : (c != 0) = true := by
    rcases hc with ⟨_, rfl⟩ | ⟨_, _, rfl⟩ | ⟨_, _, _, rfl⟩ <;> rfl
  replace hc := Lib.hid hc
  obtain ⟨Av, cv, rfl⟩ := rk_form hv
  obtain ⟨At, ct, rfl⟩ := rk_form ht
  have HP := Blk.new w (planC p) 33
  have hB0 := below_alloc (Below.refl w.heap.size w) (.cells (planC p) 33)
  replace hv := hv.below hB0
  replace ht := ht.below hB0
  obtain ⟨c0, c1, c2, c3, c4, c5⟩ := cells6 HP
  by_cases h : p.Ok
  · have hd := Lib.hid (decide_eq_true (hi h))
    clear hi
    go_enter Try.func131, Try.ntmps131
    go_wp2_with fail
    refine (right_yes p h _).mono ?_
    rintro e w1 ⟨rfl, h1⟩
    obtain ⟨c0, c1, c2, c3, c4, c5⟩ := cells6 (HP.below h1)
    go_wp2_with fail
    refine (is_yes p h i _).mono ?_
    rintro e w2 ⟨rfl, h2⟩
    rw [hd.out]
    have hB := bt_ h1 h2
    obtain ⟨c0, c1, c2, c3, c4, c5⟩ := cells6 (HP.below hB)
    replace hB0 := bt_ hB0 hB
    replace hv := hv.below hB
    replace ht := ht.below hB
    clear hB h1 h2
    have hB := Below.refl w2.heap.size w2
    go_wp2_with fail
    refine (dSome_err fv p c _ _ _ blob tape [i] _ (hv.alloc _) (ht.alloc _) (lit_i _ [i] #[.int .i64 i] 3 1 1 rfl rfl (by decide) (by decide)) hc.out).mono ?_
    rintro e w3 ⟨rfl, h3⟩
    go_wp2
    go_ret2
    exact ⟨rfl, bt_ hB0 (ba h3)⟩
  · clear hi
    go_enter Try.func131, Try.ntmps131
    go_wp2_with fail
    refine (right_no p h _).mono ?_
    rintro e w1 ⟨rfl, h1⟩
    obtain ⟨c0, c1, c2, c3, c4, c5⟩ := cells6 (HP.below h1)
    replace hB0 := bt_ hB0 h1
    replace hv := hv.below h1
    replace ht := ht.below h1
    go_wp2_with fail
    refine (dSome_err fv p c _ _ _ blob tape [i] _ (hv.alloc _) (ht.alloc _) (lit_i _ [i] #[.int .i64 i] 3 1 1 rfl rfl (by decide) (by decide)) hc.out).mono ?_
    rintro e w3 ⟨rfl, h3⟩
    go_wp2
    go_ret2
    exact ⟨rfl, bt_ hB0 (ba h3)⟩
set_option maxRecDepth 100000 in
set_option maxHeartbeats 3200000 in
theorem dShare_ok (b : Nat) (p : Pl) (h : p.Ok) (v tv : Value) (blob tape : List F) (i : Int) (hi : 1 ≤ i ∧ i ≤ p.N) (w : World) (hF : IsField w b) (hv : Rb w v blob) (ht : Rb w tv tape) (hl : blob.length ≤ 240) (hlen : p.T * (F.nS p.L.toNat blob.length : Int) ≤ (tape.length : Int)) :
   Calls Try.prog 131 #[fp b, planV p, v, tv, .int .i64 i] w fun e w' => ∃ z, e = .returned (.tuple #[z, .int .i64 0]) ∧ Ob w w' z (F.dshare (polysOf p blob tape) (point i)) ∧ Below w.heap.size w w' := by
  have hd := Lib.hid (decide_eq_true hi)
  obtain ⟨Av, cv, rfl⟩ := rk_form hv
  obtain ⟨At, ct, rfl⟩ := rk_form ht
  have HP := Blk.new w (planC p) 33
  have hB0 := below_alloc (Below.refl w.heap.size w) (.cells (planC p) 33)
  replace hv := hv.below hB0
  replace ht := ht.below hB0
  replace hF := hF.below hB0
  obtain ⟨c0, c1, c2, c3, c4, c5⟩ := cells6 HP
  clear hi
  go_enter Try.func131, Try.ntmps131
  go_wp2_with fail
  refine (right_yes p h _).mono ?_
  rintro e w1 ⟨rfl, h1⟩
  obtain ⟨c0, c1, c2, c3, c4, c5⟩ := cells6 (HP.below h1)
  go_wp2_with fail
  refine (is_yes p h i _).mono ?_
  rintro e w2 ⟨rfl, h2⟩
  rw [hd.out]
  have hB := bt_ h1 h2
  obtain ⟨c0, c1, c2, c3, c4, c5⟩ := cells6 (HP.below hB)
  replace hB0 := bt_ hB0 hB
  replace hv := hv.below hB
  replace ht := ht.below hB
  replace hF := hF.below hB
  clear hB h1 h2
  go_wp2_with fail
  refine (dSome_ok b p h _ _ _ blob tape [i] _ (hF.alloc _) (hv.alloc _) (ht.alloc _) (lit_i _ [i] #[.int .i64 i] 3 1 1 rfl rfl (by decide) (by decide)) hl (show 1 ≤ 1000 by decide) hlen).mono ?_
  rintro e w3 ⟨g, vs, rfl, hR, h3⟩
  have hc0 := hR.cell 0 Nat.one_pos
  have hO := (hR.own 0 Nat.one_pos).lower (bt_ hB0 (alloc_b _ _))
  replace hO : Ob w w3 (vs 0) (F.dshare (polysOf p blob tape) (point i)) := hO
  rw [show ([i] : List Int).length = 1 from rfl]
  go_wp2
  go_ret2
  exact ⟨_, rfl, hO, bt_ hB0 (ba h3)⟩
end Go.Proofs.Ytijeabhfddaoaaa
