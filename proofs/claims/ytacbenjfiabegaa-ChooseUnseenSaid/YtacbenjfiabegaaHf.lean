/- The walks of choose.first, Dealers, Helpers, Targets. -/
import Derived.Test.YtacbenjfiabegaaHe
import Derived.Test.YtacbenjfiabegaaPo
import Derived.Test.YtacbenjfiabegaaK9
namespace Go.Proofs.Ytacbenjfiabegaa
set_option linter.unusedVariables false
set_option linter.unusedSimpArgs false
open Go.RowKit Go.Proofs.YtacbenjfiabegaaW.PrintWords Go.Proofs.Sh

/-- Two rising lists with the same members are the same. -/
theorem rise_eq : ∀ (a b : List Int), a.Pairwise (· < ·) → b.Pairwise (· < ·) → (∀ y, y ∈ a ↔ y ∈ b) → a = b
  | [], [], _, _, _ => rfl
  | [], y :: b, _, _, h => absurd ((h y).2 (by simp)) (by simp)
  | x :: a, [], _, _, h => absurd ((h x).1 (by simp)) (by simp)
  | x :: a, y :: b, ha, hb, h => by
    rw [List.pairwise_cons] at ha hb
    have e : x = y := by
      have h1 := (h x).1 (by simp)
      have h2 := (h y).2 (by simp)
      rw [List.mem_cons] at h1 h2
      rcases h1 with h1 | h1
      · exact h1
      · rcases h2 with h2 | h2
        · exact h2.symm
        · have := hb.1 x h1
          have := ha.1 y h2
          omega
    subst e
    rw [rise_eq a b ha.2 hb.2 (fun z => ?_)]
    constructor
    · intro hz
      have := (h z).1 (List.mem_cons_of_mem _ hz)
      rw [List.mem_cons] at this
      rcases this with rfl | this
      · have := ha.1 z hz
        omega
      · exact this
    · intro hz
      have := (h z).2 (List.mem_cons_of_mem _ hz)
      rw [List.mem_cons] at this
      rcases this with rfl | this
      · have := hb.1 z hz
        omega
      · exact this
theorem all_rise (p : Pl) : (allOf p).Pairwise (· < ·) := by
  unfold allOf
  rw [List.pairwise_map]
  exact List.pairwise_lt_range.imp (fun h => by omega)
theorem mem_allOf (p : Pl) (y : Int) : y ∈ allOf p ↔ 1 ≤ y ∧ y ≤ p.N := by
  unfold allOf
  rw [List.mem_map]
  constructor
  · rintro ⟨i, hi, rfl⟩
    rw [List.mem_range] at hi
    omega
  · intro h
    exact ⟨(y - 1).toNat, by rw [List.mem_range]; omega, by omega⟩
/-- Who of some numbers is a custodian, and is not a given one. -/
def pickC (p : Pl) (l : List Int) (but : Int) : List Int := if p.Ok then (allOf p).filter (fun y => decide (y ∈ l ∧ y ≠ but)) else []
theorem pickC_no {p : Pl} (h : ¬ p.Ok) (l : List Int) (but : Int) : pickC p l but = [] := if_neg h
theorem pickC_rise (p : Pl) (l : List Int) (but : Int) : (pickC p l but).Pairwise (· < ·) := by
  unfold pickC
  split
  · exact (all_rise p).filter _
  · exact List.Pairwise.nil
theorem mem_pickC (p : Pl) (l : List Int) (but y : Int) : y ∈ pickC p l but ↔ (y ∈ l ∧ y ∉ [but]) ∧ isC p y = true := by
  unfold pickC isC
  rw [decide_eq_true_iff, List.mem_singleton]
  split
  · rename_i h
    rw [List.mem_filter, mem_allOf, decide_eq_true_iff]
    exact ⟨fun ⟨a, b⟩ => ⟨b, h, a⟩, fun ⟨b, _, a⟩ => ⟨a, b⟩⟩
  · rename_i h
    simp [h]
theorem pickC_len (p : Pl) (h : p.Ok) (l : List Int) (but : Int) : (pickC p l but).length ≤ 256 := by
  unfold pickC
  rw [if_pos h]
  refine Nat.le_trans (List.length_filter_le _ _) ?_
  simp [allOf]
  have := h.nl
  have := h.l
  omega
theorem pick_c (p : Pl) (u : Value) (l : List Int) (i : Int) (w : World) (hu : Ri w u l) (hl : l.length ≤ 100000) :
   Calls Try.prog 74 #[planV p, u, .int .i64 i] w fun e w' => ∃ v, e = .returned v ∧ Oi w w' v (pickC p l i) ∧ Below w.heap.size w w' :=
  (those_c p u l i w hu hl).mono fun e w' ⟨v, r, he, hO, hB, h1, h2⟩ => ⟨v, he, by rwa [rise_eq _ _ (pickC_rise p l i) h1 (fun y => by rw [mem_pickC, h2])], hB⟩
/-- The first ones, if there are so many. -/
def firstL (l : List Int) (n : Int) : List Int := if n < 1 ∨ (l.length : Int) < n then [] else l.take n.toNat
def firstB (l : List Int) (n : Int) : Bool := decide (1 ≤ n ∧ n ≤ l.length)
theorem ri_take {w : World} {A : Option Addr} {c : Nat} {r : List Int} (h : Ri w (.slice A r.length c) r) (m : Nat) (hm : m ≤ r.length) : Ri w (.slice A m m) (r.take m) :=
  ⟨A, m, by rw [List.length_take, Nat.min_eq_left hm], by rw [List.length_take]; omega, Kd.C_take (rk_C h) hm⟩
set_option maxHeartbeats 800000 in
theorem first_c (v : Value) (l : List Int) (n : Int) (w : World) (hv : Ri w v l) :
   Calls Try.prog 73 #[v, .int .i64 n] w fun e w' => ∃ z, e = .returned (.tuple #[z, .bool (firstB l n)]) ∧ Ri w' z (firstL l n) ∧ w' = w := by
  obtain ⟨A, c, rfl⟩ := rk_form hv
  have hcap := rk_cap hv
  have hlm := ri_len (rk_C hv)
  by_cases h1 : n < 1
  · have e1 : firstB l n = false := decide_eq_false (by omega)
    have e2 : firstL l n = [] := if_pos (.inl h1)
    rw [e1, e2]
    have t1 : decide (n < 1) = true := decide_eq_true h1
    go_enter Try.func73, Try.ntmps73
    go_wp2
    go_ret2
    exact ⟨_, rfl, Rk.nil _ _, rfl⟩
  · by_cases h2 : (l.length : Int) < n
    · have e1 : firstB l n = false := decide_eq_false (by omega)
      have e2 : firstL l n = [] := if_pos (.inr h2)
      rw [e1, e2]
      have t1 : decide (n < 1) = false := decide_eq_false h1
      have t2 : decide ((l.length : Int) < n) = true := decide_eq_true h2
      go_enter Try.func73, Try.ntmps73
      go_wp2
      go_ret2
      exact ⟨_, rfl, Rk.nil _ _, rfl⟩
    · obtain ⟨m, rfl⟩ : ∃ m : Nat, n = m := ⟨n.toNat, by omega⟩
      have e1 : firstB l m = true := decide_eq_true (by omega)
      have e2 : firstL l m = l.take m := by unfold firstL; rw [if_neg (by omega), Int.toNat_natCast]
      have hu := Lib.hid (ri_take hv m (by omega))
      rw [e1, e2]
      have t1 : decide ((m : Int) < 1) = false := decide_eq_false h1
      have t2 : decide ((l.length : Int) < m) = false := decide_eq_false h2
      go_enter Try.func73, Try.ntmps73
      go_wp2
      go_ret2
      exact ⟨_, rfl, by simpa using hu.out, rfl⟩

/-- How many deal; how many help. -/
def dealN (p : Pl) : Int := if p.Ok then p.T + 1 else 0
def needN (p : Pl) : Int := if p.Ok then p.T + p.L else 0
theorem dealN_c (p : Pl) (w : World) : Calls Try.prog 75 #[planV p] w fun e w' => e = .returned (.int .i64 (dealN p)) ∧ Below w.heap.size w w' := by
  by_cases h : p.Ok
  · rw [dealN, if_pos h]
    exact dealers_yes p h w
  · rw [dealN, if_neg h]
    exact dealers_no p h w
theorem needN_c (p : Pl) (w : World) : Calls Try.prog 77 #[planV p] w fun e w' => e = .returned (.int .i64 (needN p)) ∧ Below w.heap.size w w' := by
  by_cases h : p.Ok
  · rw [needN, if_pos h]
    exact need_yes p h w
  · rw [needN, if_neg h]
    exact need_no p h w
def allN (p : Pl) : List Int := if p.Ok then allOf p else []
theorem allN_c (p : Pl) (w : World) : Calls Try.prog 83 #[planV p] w fun e w' => ∃ v, e = .returned v ∧ Ri w' v (allN p) ∧ Below w.heap.size w w' := by
  by_cases h : p.Ok
  · rw [allN, if_pos h]
    exact (all_yes p h w).mono fun e w' ⟨v, h1, h2, h3⟩ => ⟨v, h1, h2.rk, h3⟩
  · rw [allN, if_neg h]
    exact (all_no p h w).mono fun e w' ⟨h1, h3⟩ => ⟨_, h1, Rk.nil _ _, h3⟩
def dealL (p : Pl) (l : List Int) : List Int := firstL (pickC p l 0) (dealN p)
def dealB (p : Pl) (l : List Int) : Bool := firstB (pickC p l 0) (dealN p)
def helpL (p : Pl) (l : List Int) (t : Int) : List Int := firstL (pickC p l t) (needN p)
def helpB (p : Pl) (l : List Int) (t : Int) : Bool := firstB (pickC p l t) (needN p)
def isTI (l : List Int) (c : Value) : Value → World → Prop := fun v W => ∃ z, v = .tuple #[z, c] ∧ Ri W z l
theorem last_TI (l : List Int) (c : Value) : Lasts (isTI l c) := fun _ _ _ ⟨z, h1, h2⟩ hB => ⟨z, h1, Rk.below h2 hB⟩
set_option maxRecDepth 100000 in
set_option maxHeartbeats 1600000 in
theorem cDealers_c (p : Pl) (u : Value) (l : List Int) (w : World) (hu : Ri w u l) (hl : l.length ≤ 100000) :
   Calls Try.prog 41 #[planV p, u] w fun e w' => ∃ z, e = .returned (.tuple #[z, .bool (dealB p l)]) ∧ Ri w' z (dealL p l) ∧ Below w.heap.size w w' := by
  have HP := Blk.new w (planC p) 48
  have hB := below_alloc (Below.refl w.heap.size w) (.cells (planC p) 48)
  replace hu := Lib.hid (hu.below hB)
  have hB0 := hB
  go_enter Try.func41, Try.ntmps41
  go_upto_region 1 with fail
  generalize w.alloc (.cells (planC p) 48) = w0 at *
  clear hB
  refine wp_region_tell [.v (planV p), .v (u), .p (isI (pickC p l 0)), .v (planV p), .v (.int .i64 (dealN p)), .p (isTI (dealL p l) (.bool (dealB p l))), .p (isI (dealL p l)), .v (.bool (dealB p l)), .p (isI (dealL p l)), .v (.bool (dealB p l))] [([], none), ([], none), ([(0, some 6), (1, some 7)], none), ([], none), ([(3, some 9)], none), ([(2, some 8), (4, some 10)], none), ([(5, some 11)], none), ([(5, some 11)], none), ([(6, some 12)], none), ([(7, some 13)], none)] [(0, some 6), (1, some 7), (2, some 8), (3, some 9), (4, some 10), (5, some 11), (6, some 12), (7, some 13), (8, some 4), (9, some 5)] (by kernel_rfl) (by kernel_rfl) (by kernel_rfl) (by kernel_rfl) (by exact ⟨trivial, trivial, last_I _, trivial, trivial, last_TI _ _, last_I _, trivial, last_I _, trivial, trivial⟩) ⟨?s0, ?s1, ?s2, ?s3, ?s4, ?s5, ?s6, ?s7, ?s8, ?s9, trivial⟩ ?hQ
  case s0 =>
    intro W hB K hK
    simp only [tellK, Act.put, List.setIfInBounds_toArray, List.set_cons_zero, List.set_cons_succ] at hK ⊢
    refine tell_do rfl ?_
    obtain ⟨c0, c1, c2, c3, c4, c5⟩ := cells6 (HP.below hB)
    go_simp
    exact hK _ (Below.refl _ _)
  case s1 =>
    intro W hB K hK
    simp only [tellK, Act.put, List.setIfInBounds_toArray, List.set_cons_zero, List.set_cons_succ] at hK ⊢
    refine tell_do rfl ?_
    obtain ⟨c0, c1, c2, c3, c4, c5⟩ := cells6 (HP.below hB)
    go_simp
    exact hK _ (Below.refl _ _)
  case s2 =>
    intro W hB K hK
    simp only [tellK, Act.put, List.setIfInBounds_toArray, List.set_cons_zero, List.set_cons_succ] at hK ⊢
    refine tell_do rfl ?_
    obtain ⟨c0, c1, c2, c3, c4, c5⟩ := cells6 (HP.below hB)
    go_simp
    go_at_call 74; refine (pick_c p u l 0 _ (hu.out.below hB) hl).mono ?_; rintro e W9 ⟨z, rfl, ho, g9⟩; exact hK _ _ ho.rk g9
  case s3 =>
    intro W hB K hK
    simp only [tellK, Act.put, List.setIfInBounds_toArray, List.set_cons_zero, List.set_cons_succ] at hK ⊢
    refine tell_do rfl ?_
    obtain ⟨c0, c1, c2, c3, c4, c5⟩ := cells6 (HP.below hB)
    go_simp
    exact hK _ (Below.refl _ _)
  case s4 =>
    intro W hB K hK
    simp only [tellK, Act.put, List.setIfInBounds_toArray, List.set_cons_zero, List.set_cons_succ] at hK ⊢
    refine tell_do rfl ?_
    obtain ⟨c0, c1, c2, c3, c4, c5⟩ := cells6 (HP.below hB)
    go_simp
    go_at_call 75; refine (dealN_c p _).mono ?_; rintro e W9 ⟨rfl, g9⟩; exact hK _ g9
  case s5 =>
    intro W hB v2 h2 K hK
    replace h2 : Ri W v2 (pickC p l 0) := h2
    simp only [tellK, Act.put, List.setIfInBounds_toArray, List.set_cons_zero, List.set_cons_succ] at hK ⊢
    refine tell_do rfl ?_
    obtain ⟨c0, c1, c2, c3, c4, c5⟩ := cells6 (HP.below hB)
    go_simp
    go_at_call 73; refine (first_c _ _ _ _ h2).mono ?_; rintro e W9 ⟨z, rfl, hz, rfl⟩; exact hK _ _ ⟨z, rfl, hz⟩ (Below.refl _ _)
  case s6 =>
    intro W hB v5 h5 K hK
    obtain ⟨z5, rfl, h5⟩ := h5
    simp only [tellK, Act.put, List.setIfInBounds_toArray, List.set_cons_zero, List.set_cons_succ] at hK ⊢
    refine tell_do rfl ?_
    obtain ⟨c0, c1, c2, c3, c4, c5⟩ := cells6 (HP.below hB)
    go_simp
    exact hK _ _ h5 (Below.refl _ _)
  case s7 =>
    intro W hB v5 h5 K hK
    obtain ⟨z5, rfl, h5⟩ := h5
    simp only [tellK, Act.put, List.setIfInBounds_toArray, List.set_cons_zero, List.set_cons_succ] at hK ⊢
    refine tell_do rfl ?_
    obtain ⟨c0, c1, c2, c3, c4, c5⟩ := cells6 (HP.below hB)
    go_simp
    exact hK _ (Below.refl _ _)
  case s8 =>
    intro W hB v6 h6 K hK
    replace h6 : Ri W v6 (dealL p l) := h6
    simp only [tellK, Act.put, List.setIfInBounds_toArray, List.set_cons_zero, List.set_cons_succ] at hK ⊢
    refine tell_do rfl ?_
    obtain ⟨c0, c1, c2, c3, c4, c5⟩ := cells6 (HP.below hB)
    go_simp
    exact hK _ _ h6 (Below.refl _ _)
  case s9 =>
    intro W hB K hK
    simp only [tellK, Act.put, List.setIfInBounds_toArray, List.set_cons_zero, List.set_cons_succ] at hK ⊢
    refine tell_do rfl ?_
    obtain ⟨c0, c1, c2, c3, c4, c5⟩ := cells6 (HP.below hB)
    go_simp
    exact hK _ (Below.refl _ _)
  case hQ =>
    intro W hB v2 h2 v5 h5 v6 h6 v8 h8
    replace h2 : Ri W v2 (pickC p l 0) := h2
    obtain ⟨z5, rfl, h5⟩ := h5
    replace h6 : Ri W v6 (dealL p l) := h6
    replace h8 : Ri W v8 (dealL p l) := h8
    simp only [tellGo, sayAt, List.getD_cons_zero, List.getD_cons_succ, Act.put, List.setIfInBounds_toArray, List.set_cons_zero, List.set_cons_succ]
    go_wp2
    go_ret2
    exact ⟨_, rfl, h8, bt_ hB0 hB⟩
set_option maxRecDepth 100000 in
set_option maxHeartbeats 1600000 in
theorem cHelpers_c (p : Pl) (u : Value) (l : List Int) (t : Int) (w : World) (hu : Ri w u l) (hl : l.length ≤ 100000) (ht : isC p t = true) :
   Calls Try.prog 42 #[planV p, u, .int .i64 t] w fun e w' => ∃ z, e = .returned (.tuple #[z, .bool (helpB p l t)]) ∧ Ri w' z (helpL p l t) ∧ Below w.heap.size w w' := by
  have HP := Blk.new w (planC p) 48
  have hB := below_alloc (Below.refl w.heap.size w) (.cells (planC p) 48)
  obtain ⟨c0, c1, c2, c3, c4, c5⟩ := cells6 HP
  replace hu := Lib.hid (hu.below hB)
  go_enter Try.func42, Try.ntmps42
  go_wp2_with fail
  refine (is_any p t _).mono ?_
  rw [ht]
  rintro e w1 ⟨rfl, h1⟩
  have hB0 := bt_ hB h1
  replace hu := Lib.hid (hu.out.below h1)
  have HP := HP.below h1
  have hB := bt_ hB h1
  obtain ⟨c0, c1, c2, c3, c4, c5⟩ := cells6 HP
  go_upto_region 3 with fail
  clear hB
  refine wp_region_tell [.v (planV p), .v (u), .v (.int .i64 t), .p (isI (pickC p l t)), .v (planV p), .v (.int .i64 (needN p)), .p (isTI (helpL p l t) (.bool (helpB p l t))), .p (isI (helpL p l t)), .v (.bool (helpB p l t)), .p (isI (helpL p l t)), .v (.bool (helpB p l t))] [([], none), ([], none), ([], none), ([(0, some 12), (1, some 13), (2, some 14)], none), ([], none), ([(4, some 16)], none), ([(3, some 15), (5, some 17)], none), ([(6, some 18)], none), ([(6, some 18)], none), ([(7, some 19)], none), ([(8, some 20)], none)] [(0, some 12), (1, some 13), (2, some 14), (3, some 15), (4, some 16), (5, some 17), (6, some 18), (7, some 19), (8, some 20), (9, some 6), (10, some 7)] (by kernel_rfl) (by kernel_rfl) (by kernel_rfl) (by kernel_rfl) (by exact ⟨trivial, trivial, trivial, last_I _, trivial, trivial, last_TI _ _, last_I _, trivial, last_I _, trivial, trivial⟩) ⟨?s0, ?s1, ?s2, ?s3, ?s4, ?s5, ?s6, ?s7, ?s8, ?s9, ?s10, trivial⟩ ?hQ
  case s0 =>
    intro W hB K hK
    simp only [tellK, Act.put, List.setIfInBounds_toArray, List.set_cons_zero, List.set_cons_succ] at hK ⊢
    refine tell_do rfl ?_
    obtain ⟨c0, c1, c2, c3, c4, c5⟩ := cells6 (HP.below hB)
    go_simp
    exact hK _ (Below.refl _ _)
  case s1 =>
    intro W hB K hK
    simp only [tellK, Act.put, List.setIfInBounds_toArray, List.set_cons_zero, List.set_cons_succ] at hK ⊢
    refine tell_do rfl ?_
    obtain ⟨c0, c1, c2, c3, c4, c5⟩ := cells6 (HP.below hB)
    go_simp
    exact hK _ (Below.refl _ _)
  case s2 =>
    intro W hB K hK
    simp only [tellK, Act.put, List.setIfInBounds_toArray, List.set_cons_zero, List.set_cons_succ] at hK ⊢
    refine tell_do rfl ?_
    obtain ⟨c0, c1, c2, c3, c4, c5⟩ := cells6 (HP.below hB)
    go_simp
    exact hK _ (Below.refl _ _)
  case s3 =>
    intro W hB K hK
    simp only [tellK, Act.put, List.setIfInBounds_toArray, List.set_cons_zero, List.set_cons_succ] at hK ⊢
    refine tell_do rfl ?_
    obtain ⟨c0, c1, c2, c3, c4, c5⟩ := cells6 (HP.below hB)
    go_simp
    go_at_call 74; refine (pick_c p u l t _ (hu.out.below hB) hl).mono ?_; rintro e W9 ⟨z, rfl, ho, g9⟩; exact hK _ _ ho.rk g9
  case s4 =>
    intro W hB K hK
    simp only [tellK, Act.put, List.setIfInBounds_toArray, List.set_cons_zero, List.set_cons_succ] at hK ⊢
    refine tell_do rfl ?_
    obtain ⟨c0, c1, c2, c3, c4, c5⟩ := cells6 (HP.below hB)
    go_simp
    exact hK _ (Below.refl _ _)
  case s5 =>
    intro W hB K hK
    simp only [tellK, Act.put, List.setIfInBounds_toArray, List.set_cons_zero, List.set_cons_succ] at hK ⊢
    refine tell_do rfl ?_
    obtain ⟨c0, c1, c2, c3, c4, c5⟩ := cells6 (HP.below hB)
    go_simp
    go_at_call 77; refine (needN_c p _).mono ?_; rintro e W9 ⟨rfl, g9⟩; exact hK _ g9
  case s6 =>
    intro W hB v3 h3 K hK
    replace h3 : Ri W v3 (pickC p l t) := h3
    simp only [tellK, Act.put, List.setIfInBounds_toArray, List.set_cons_zero, List.set_cons_succ] at hK ⊢
    refine tell_do rfl ?_
    obtain ⟨c0, c1, c2, c3, c4, c5⟩ := cells6 (HP.below hB)
    go_simp
    go_at_call 73; refine (first_c _ _ _ _ h3).mono ?_; rintro e W9 ⟨z, rfl, hz, rfl⟩; exact hK _ _ ⟨z, rfl, hz⟩ (Below.refl _ _)
  case s7 =>
    intro W hB v6 h6 K hK
    obtain ⟨z6, rfl, h6⟩ := h6
    simp only [tellK, Act.put, List.setIfInBounds_toArray, List.set_cons_zero, List.set_cons_succ] at hK ⊢
    refine tell_do rfl ?_
    obtain ⟨c0, c1, c2, c3, c4, c5⟩ := cells6 (HP.below hB)
    go_simp
    exact hK _ _ h6 (Below.refl _ _)
  case s8 =>
    intro W hB v6 h6 K hK
    obtain ⟨z6, rfl, h6⟩ := h6
    simp only [tellK, Act.put, List.setIfInBounds_toArray, List.set_cons_zero, List.set_cons_succ] at hK ⊢
    refine tell_do rfl ?_
    obtain ⟨c0, c1, c2, c3, c4, c5⟩ := cells6 (HP.below hB)
    go_simp
    exact hK _ (Below.refl _ _)
  case s9 =>
    intro W hB v7 h7 K hK
    replace h7 : Ri W v7 (helpL p l t) := h7
    simp only [tellK, Act.put, List.setIfInBounds_toArray, List.set_cons_zero, List.set_cons_succ] at hK ⊢
    refine tell_do rfl ?_
    obtain ⟨c0, c1, c2, c3, c4, c5⟩ := cells6 (HP.below hB)
    go_simp
    exact hK _ _ h7 (Below.refl _ _)
  case s10 =>
    intro W hB K hK
    simp only [tellK, Act.put, List.setIfInBounds_toArray, List.set_cons_zero, List.set_cons_succ] at hK ⊢
    refine tell_do rfl ?_
    obtain ⟨c0, c1, c2, c3, c4, c5⟩ := cells6 (HP.below hB)
    go_simp
    exact hK _ (Below.refl _ _)
  case hQ =>
    intro W hB v3 h3 v6 h6 v7 h7 v9 h9
    replace h3 : Ri W v3 (pickC p l t) := h3
    obtain ⟨z6, rfl, h6⟩ := h6
    replace h7 : Ri W v7 (helpL p l t) := h7
    replace h9 : Ri W v9 (helpL p l t) := h9
    simp only [tellGo, sayAt, List.getD_cons_zero, List.getD_cons_succ, Act.put, List.setIfInBounds_toArray, List.set_cons_zero, List.set_cons_succ]
    go_wp2
    go_ret2
    exact ⟨_, rfl, h9, bt_ hB0 hB⟩
set_option maxRecDepth 100000 in
set_option maxHeartbeats 1600000 in
theorem cHelpers_no (p : Pl) (u : Value) (t : Int) (w : World) (ht : isC p t = false) :
   Calls Try.prog 42 #[planV p, u, .int .i64 t] w fun e w' => e = .returned (.tuple #[.slice none 0 0, .bool false]) ∧ Below w.heap.size w w' := by
  have HP := Blk.new w (planC p) 48
  have hB := below_alloc (Below.refl w.heap.size w) (.cells (planC p) 48)
  obtain ⟨c0, c1, c2, c3, c4, c5⟩ := cells6 HP
  go_enter Try.func42, Try.ntmps42
  go_wp2_with fail
  refine (is_any p t _).mono ?_
  rw [ht]
  rintro e w1 ⟨rfl, h1⟩
  have hB0 := bt_ hB h1
  go_wp2
  go_ret2
  exact ⟨rfl, hB0⟩
/-- Who is helped. -/
def targL (p : Pl) (l : List Int) : List Int := (allN p).filter (fun y => decide (y ∉ l))
theorem targL_rest {p : Pl} {l r : List Int} (h : IsRest (allN p) l r) : r = targL p l := by
  have ha : (allN p).Pairwise (· < ·) := by
    unfold allN
    split
    · exact all_rise p
    · exact List.Pairwise.nil
  exact rise_eq _ _ h.1 (ha.filter _) (fun y => by rw [h.2, targL, List.mem_filter, decide_eq_true_iff])
theorem allN_len (p : Pl) : (allN p).length ≤ 256 := by
  unfold allN
  split
  · rename_i h
    simp [allOf]
    have := h.nl
    have := h.l
    omega
  · simp
set_option maxRecDepth 100000 in
set_option maxHeartbeats 1600000 in
theorem cTargets_c (p : Pl) (u : Value) (l : List Int) (w : World) (hu : Ri w u l) :
   Calls Try.prog 48 #[planV p, u] w fun e w' => ∃ z, e = .returned z ∧ Ri w' z (targL p l) ∧ Below w.heap.size w w' := by
  have HP := Blk.new w (planC p) 48
  have hB := below_alloc (Below.refl w.heap.size w) (.cells (planC p) 48)
  obtain ⟨c0, c1, c2, c3, c4, c5⟩ := cells6 HP
  replace hu := Lib.hid (hu.below hB)
  go_enter Try.func48, Try.ntmps48
  go_wp2_with fail
  refine (allN_c p _).mono ?_
  rintro e w1 ⟨v1, rfl, ho, h1⟩
  replace hu := Lib.hid (hu.out.below h1)
  replace hB := bt_ hB h1
  clear h1 c0 c1 c2 c3 c4 c5 HP
  go_wp2_with fail
  refine (rest_c v1 u _ l w1 ho hu.out (Nat.le_trans (allN_len p) (by decide))).mono ?_
  rintro e w2 ⟨v, r, rfl, hO, h2, hr⟩
  rw [targL_rest hr] at hO
  replace hB := bt_ hB h2
  go_wp2
  go_ret
  exact ⟨_, rfl, hO.rk, hB⟩
end Go.Proofs.Ytacbenjfiabegaa
