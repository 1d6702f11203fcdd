/- The walks of package mask: Blind, Apply. -/
import Derived.Test.YtijeabhfddaoaaaMb
namespace Go.Proofs.Ytijeabhfddaoaaa
set_option linter.unusedVariables false
open Go.RowKit Go.Proofs.YtijeabhfddaoaaaW.PrintWords Go.Proofs.Sh

set_option maxRecDepth 100000 in
set_option maxHeartbeats 1600000 in
theorem mBlind_no (b : Nat) (p : Pl) (h : ¬ p.Ok) (v : Value) (t : Int) (w : World) :
   Calls Try.prog 142 #[fp b, planV p, v, .int .i64 t] w fun e w' => e = .returned (.slice none 0 0) ∧ Below w.heap.size w w' := by
  have HP := Blk.new w (planC p) 33
  have hB := below_alloc (Below.refl w.heap.size w) (.cells (planC p) 33)
  go_enter Try.func142, Try.ntmps142
  go_wp2_with fail
  refine (is_no p h t _).mono ?_
  rintro e w1 ⟨rfl, h1⟩
  go_wp2
  go_ret
  exact ⟨rfl, bt_ hB h1⟩
set_option maxRecDepth 100000 in
set_option maxHeartbeats 1600000 in
theorem mBlind_out (b : Nat) (p : Pl) (h : p.Ok) (v : Value) (t : Int) (ht : ¬ (1 ≤ t ∧ t ≤ p.N)) (w : World) :
   Calls Try.prog 142 #[fp b, planV p, v, .int .i64 t] w fun e w' => e = .returned (.slice none 0 0) ∧ Below w.heap.size w w' := by
  have hd := Lib.hid (decide_eq_false ht)
  clear ht
  have HP := Blk.new w (planC p) 33
  have hB := below_alloc (Below.refl w.heap.size w) (.cells (planC p) 33)
  go_enter Try.func142, Try.ntmps142
  go_wp2_with fail
  refine (is_yes p h t _).mono ?_
  rintro e w1 ⟨rfl, h1⟩
  rw [hd.out]
  go_wp2
  go_ret
  exact ⟨rfl, bt_ hB h1⟩
set_option maxRecDepth 100000 in
set_option maxHeartbeats 3200000 in
theorem mBlind_c (b : Nat) (p : Pl) (h : p.Ok) (v : Value) (s : List F) (t : Int) (ht : 1 ≤ t ∧ t ≤ p.N) (w : World) (hF : IsField w b) (hs : Rb w v s) (b1 : s.length ≤ 1000000) :
   Calls Try.prog 142 #[fp b, planV p, v, .int .i64 t] w fun e w' => ∃ z, e = .returned z ∧ Ob w w' z (blindM p s t) ∧ Below w.heap.size w w' := by
  have hT : Hid (0 ≤ p.T + p.L - 1 ∧ p.T + p.L - 1 ≤ 1000000) := Lib.hid (by have := h.t; have := h.l; have := h.tl; have := h.wn; have := h.nl; omega)
  have hR : Hid (szd (qts [point t] s) (p.T + p.L - 1).toNat = blindM p s t) := Lib.hid rfl
  have u1 : IntKind.i64.wrap (p.T + p.L - 1) = p.T + p.L - 1 := wrapI _ (by have := hT.out; omega) (by have := hT.out; omega)
  have hd := Lib.hid (decide_eq_true ht)
  have hpt := fun w => point_c t w
  generalize point t = x at *
  replace hpt := Lib.hid hpt
  clear ht
  have HP := Blk.new w (planC p) 33
  have hB := below_alloc (Below.refl w.heap.size w) (.cells (planC p) 33)
  have hF := hF.below hB
  have hs := hs.below hB
  go_enter Try.func142, Try.ntmps142
  go_wp2_with fail
  refine (is_yes p h t _).mono ?_
  rintro e w1 ⟨rfl, h1⟩
  rw [hd.out]
  have HP := HP.below h1
  have hB := bt_ hB h1
  obtain ⟨c0, c1, c2, c3, c4, c5⟩ := cells6 HP
  have hF := hF.below h1
  have hs := hs.below h1
  clear h1
  go_wp2_with fail
  go_region_held3 (fun w' => w'.cell? ⟨w.heap.size, 0, none⟩ = some (.int .i64 p.N) ∧ w'.cell? ⟨w.heap.size, 1, none⟩ = some (.int .i64 p.T) ∧ w'.cell? ⟨w.heap.size, 2, none⟩ = some (.int .i64 p.L) ∧ w'.cell? ⟨w.heap.size, 3, none⟩ = some (.int .i64 p.W) ∧ w'.cell? ⟨w.heap.size, 4, none⟩ = some (.int .i64 p.S) ∧ w'.cell? ⟨w.heap.size, 5, none⟩ = some (.int .i64 p.R))
    (go_keep)
    (first
    | (go_at_call 58; refine (hpt.out _).mono ?_; rintro e w_ ⟨rfl, rfl⟩)
    | (go_at_call 195; refine (over_c b _ _ s [x] _ (by first | exact hF.below (below_alloc (Below.refl _ _) _) | exact (hF.below (below_alloc (Below.refl _ _) _)).drew | exact (hF.below (below_alloc (Below.refl _ _) _)).drewN _) (by first | exact hs.alloc _ | exact (hs.alloc _).drew | exact (hs.alloc _).drewN _) (by first | exact lit_b _ [x] _ _ _ _ rfl rfl (by decide) (by decide) | exact (lit_b _ [x] _ _ _ _ rfl rfl (by decide) (by decide)).drew | exact (lit_b _ [x] _ _ _ _ rfl rfl (by decide) (by decide)).drewN _) b1).mono ?_; rintro e w6 ⟨vQ, rfl, sQ, h6⟩; (repeat (first | replace h6 := ba h6 | replace h6 := buN h6 | replace h6 := bu h6)); (try replace h6 := bu h6); have HP := HP.below h6; obtain ⟨c0, c1, c2, c3, c4, c5⟩ := cells6 HP; have hB := bt_ hB h6)
    | (go_at_call 63; refine (need_yes p h _).mono ?_; rintro e w6 ⟨rfl, h6⟩; (repeat (first | replace h6 := ba h6 | replace h6 := buN h6 | replace h6 := bu h6)); have sQ := sQ.below h6; (try replace h6 := bu h6); have HP := HP.below h6; obtain ⟨c0, c1, c2, c3, c4, c5⟩ := cells6 HP; have hB := bt_ hB h6)
    | (go_at_call 194; refine (sized_i _ _ (p.T + p.L - 1) _ sQ hT.out.1 hT.out.2).mono ?_; rintro e w6 ⟨vZ, rfl, sZ, h6⟩; (have hB9 := hB); (repeat (first | replace h6 := ba h6 | replace h6 := buN h6 | replace h6 := bu h6)); (try replace h6 := bu h6); have HP := HP.below h6; obtain ⟨c0, c1, c2, c3, c4, c5⟩ := cells6 HP; have hB := bt_ hB h6)
    | fail)
  go_wp2
  go_ret
  exact ⟨_, rfl, by rw [← hR.out]; exact sZ.lower hB9, hB⟩
set_option maxRecDepth 100000 in
set_option maxHeartbeats 1600000 in
theorem bClone_c (v : Value) (l : List F) (w : World) (hv : Rb w v l) (hl : l.length ≤ 1000000) :
   Calls Try.prog 173 #[v] w fun e w' => ∃ z, e = .returned z ∧ Ob w w' z l ∧ Below w.heap.size w w' := by
  have hL := lit_own (w0 := w) (W := w) [] #[] rfl 0 rfl (by decide) (Nat.le_refl _)
  have hB := below_alloc (Below.refl w.heap.size w) (.cells #[] 5)
  have hv2 := hv.below hB
  obtain ⟨A, c, rfl, hc, hr⟩ := hv
  cases A with
  | none =>
    have h0 : l = [] := by
      rcases l with _ | ⟨x, l⟩
      · rfl
      · obtain ⟨ad, e, _⟩ := kb_at hr 0 (by simp)
        cases e
    subst h0
    have hnil : ∀ W, (binOp .eql 40 (.slice none 0 c) (.slice none 0 0)).run Try.prog W = .ok (.bool true) W := fun W => Lib.run_eql_slice_nil_nil W _ _ Try.underlying40
    go_enter Try.func173, Try.ntmps173
    go_wp2
    go_ret
    exact ⟨_, rfl, Own.nil _ _ _ _, Below.refl _ _⟩
  | some ad =>
    have hnil : ∀ W, (binOp .eql 40 (.slice (some ad) l.length c) (.slice none 0 0)).run Try.prog W = .ok (.bool false) W := fun W => Lib.run_eql_slice_some_nil W _ _ _ Try.underlying40
    go_enter Try.func173, Try.ntmps173
    go_wp2_with (at_builtin; refine app_many (enc := bV) rfl (.tmp 5) (.tmp 6) 40 5 (.int .u8 0) 1 rfl Try.underlying40 infoB rfl (by decide) _ [] l _ rfl rfl hL hv2 hB ?hl ?_; (case hl => (simp; omega)); intro v1 w1 ho hb hg)
    go_ret
    exact ⟨_, rfl, ho, hb⟩
set_option maxRecDepth 100000 in
set_option maxHeartbeats 1600000 in
theorem mApply_out (v u : Value) (t m : List F) (a : Int) (w : World) (hv : Rb w v t) (hl : t.length ≤ 1000000) (ha : a < 0 ∨ (t.length : Int) < a) :
   Calls Try.prog 143 #[v, .int .i64 a, u] w fun e w' => ∃ z, e = .returned z ∧ Ob w w' z (apM t a m) ∧ Below w.heap.size w w' := by
  have hR : Hid (apM t a m = t) := Lib.hid (apM_out t a m (by omega))
  by_cases h0 : a < 0
  · have t1 : decide (a < 0) = true := decide_eq_true h0
    clear ha
    go_enter Try.func143, Try.ntmps143
    go_wp2_with fail
    refine (bClone_c _ t _ hv hl).mono ?_
    rintro e w1 ⟨v1, rfl, hO, h1⟩
    go_wp2
    go_ret
    rw [hR.out]
    exact ⟨_, rfl, hO, h1⟩
  · have t1 : decide (a < 0) = false := decide_eq_false h0
    have t2 : decide ((t.length : Int) < a) = true := decide_eq_true (by omega)
    clear ha
    go_enter Try.func143, Try.ntmps143
    go_wp2_with fail
    refine (bClone_c _ t _ hv hl).mono ?_
    rintro e w1 ⟨v1, rfl, hO, h1⟩
    obtain ⟨A1, n1, rfl⟩ := rk_form hO.rk
    go_wp2
    go_ret
    rw [hR.out]
    exact ⟨_, rfl, hO, h1⟩
set_option maxRecDepth 100000 in
set_option maxHeartbeats 3200000 in
theorem mApply_in (v u : Value) (t m : List F) (a : Nat) (w : World) (hv : Rb w v t) (hu : Rb w u m) (hl : t.length ≤ 1000000) (ha : a < t.length) :
   Calls Try.prog 143 #[v, .int .i64 (a : Int), u] w fun e w' => ∃ z, e = .returned z ∧ Ob w w' z (apM t a m) ∧ Below w.heap.size w w' := by
  have hR : Hid (apTo t a m (min (t.length - a) m.length) = apM t a m) := Lib.hid (apTo_all t a m)
  have t1 : decide ((a : Int) < 0) = false := decide_eq_false (by omega)
  have t2 : decide ((t.length : Int) < a) = false := decide_eq_false (by omega)
  have t3 : decide (t.length < a) = false := decide_eq_false (by omega)
  obtain ⟨B, d, rfl, hd, hs⟩ := hu
  have hlm := kb_len hs
  go_enter Try.func143, Try.ntmps143
  go_wp2_with fail
  refine (bClone_c _ t _ hv hl).mono ?_
  rintro e w1 ⟨v1, rfl, hO, hB⟩
  obtain ⟨g, cap, rfl, hg0, hg1⟩ := hO.form (by omega)
  obtain ⟨_, hcap⟩ := ob_slice hO
  have hs0 := Kd.C_below hs hB
  have hs0 := Lib.hid hs0
  by_cases hmin : m.length < t.length - a
  · have hR : Hid (apTo t a m m.length = apM t a m) := Lib.hid (by have := hR.out; rwa [Nat.min_eq_right (by omega)] at this)
    go_wp2_with fail
    (try rw [t3])
    go_loopw [9, 29] (fun _ i wr => ∃ k : Nat, k ≤ m.length ∧ i = .int .i64 k ∧ Ob w wr (.slice (some ⟨g, 0, none⟩) t.length cap) (apTo t a m k) ∧ Below w.heap.size w wr) (fun _ i _ => m.length - (intOf i).toNat)
    case atStart => exact ⟨0, by omega, rfl, by rw [apTo_0]; exact hO, hB⟩
    case round =>
      clear hO hB
      obtain ⟨k, hk, rfl, hO, hB⟩ := hrel
      by_cases hlt : k < m.length
      · obtain ⟨ad, rfl, d0⟩ := kb_at hs k (by omega)
        have d0 := pw_cell_below hB d0
        obtain ⟨e1, e2⟩ := hO.at (a + k) (by rw [apTo_len]; omega)
        have hst := Lib.hid (apTo_set t a m k (by omega))
        have hset := fun x => Lib.hid (hO.set (a + k) x).1
        have q1 : k < m.length := by omega
        have q2 : k < t.length - a := by omega
        generalize (apTo t a m k).getD (a + k) 0 = x at *
        generalize m.getD k 0 = y at *
        go_wp2_with fail
        go_region_law (first
          | (go_simp; go_at_call 39; refine (add_c x y _ _ _ rfl rfl).mono ?_; rintro e w5 ⟨rfl, rfl⟩)
          | fail)
        all_goals
          go_wp2
          have hO2 := (hset (x + y)).out
          rw [hst.out] at hO2
          exact ⟨⟨k + 1, by omega, by go_num, hO2.below (below_drew (Below.refl _ _)), below_drew (below_set hB hg0)⟩, by simp [intOf]; try omega⟩
      · obtain rfl : k = m.length := by omega
        rw [hR.out] at hO
        go_wp2
        go_ret
        exact ⟨_, rfl, hO, hB⟩
  · have hR : Hid (apTo t a m (t.length - a) = apM t a m) := Lib.hid (by have := hR.out; rwa [Nat.min_eq_left (by omega)] at this)
    go_wp2_with fail
    (try rw [t3])
    go_loopw [9, 29] (fun _ i wr => ∃ k : Nat, k ≤ (t.length - a) ∧ i = .int .i64 k ∧ Ob w wr (.slice (some ⟨g, 0, none⟩) t.length cap) (apTo t a m k) ∧ Below w.heap.size w wr) (fun _ i _ => (t.length - a) - (intOf i).toNat)
    case atStart => exact ⟨0, by omega, rfl, by rw [apTo_0]; exact hO, hB⟩
    case round =>
      clear hO hB
      obtain ⟨k, hk, rfl, hO, hB⟩ := hrel
      by_cases hlt : k < (t.length - a)
      · obtain ⟨ad, rfl, d0⟩ := kb_at hs k (by omega)
        have d0 := pw_cell_below hB d0
        obtain ⟨e1, e2⟩ := hO.at (a + k) (by rw [apTo_len]; omega)
        have hst := Lib.hid (apTo_set t a m k (by omega))
        have hset := fun x => Lib.hid (hO.set (a + k) x).1
        have q1 : k < m.length := by omega
        have q2 : k < t.length - a := by omega
        generalize (apTo t a m k).getD (a + k) 0 = x at *
        generalize m.getD k 0 = y at *
        go_wp2_with fail
        go_region_law (first
          | (go_simp; go_at_call 39; refine (add_c x y _ _ _ rfl rfl).mono ?_; rintro e w5 ⟨rfl, rfl⟩)
          | fail)
        all_goals
          go_wp2
          have hO2 := (hset (x + y)).out
          rw [hst.out] at hO2
          exact ⟨⟨k + 1, by omega, by go_num, hO2.below (below_drew (Below.refl _ _)), below_drew (below_set hB hg0)⟩, by simp [intOf]; try omega⟩
      · obtain rfl : k = (t.length - a) := by omega
        rw [hR.out] at hO
        go_wp2
        go_ret
        exact ⟨_, rfl, hO, hB⟩
set_option maxRecDepth 100000 in
set_option maxHeartbeats 3200000 in
theorem mApply_end (v u : Value) (t m : List F) (w : World) (hv : Rb w v t) (hu : Rb w u m) (hl : t.length ≤ 1000000) :
   Calls Try.prog 143 #[v, .int .i64 (t.length : Int), u] w fun e w' => ∃ z, e = .returned z ∧ Ob w w' z (apM t t.length m) ∧ Below w.heap.size w w' := by
  have hR : Hid (apM t t.length m = t) := Lib.hid (apM_out t _ m (by omega))
  have t1 : decide ((t.length : Int) < 0) = false := decide_eq_false (by omega)
  have t2 : decide ((t.length : Int) < t.length) = false := decide_eq_false (by omega)
  have t3 : decide (t.length < t.length) = false := decide_eq_false (by omega)
  obtain ⟨B, d, rfl, hd, hs⟩ := hu
  have hlm := kb_len hs
  go_enter Try.func143, Try.ntmps143
  go_wp2_with fail
  refine (bClone_c _ t _ hv hl).mono ?_
  rintro e w1 ⟨v1, rfl, hO, hB⟩
  obtain ⟨A1, n1, rfl⟩ := rk_form hO.rk
  have hcap := rk_cap hO.rk
  cases A1 with
  | none =>
    go_wp2_with fail
    (try rw [t3])
    go_loop [29] (fun i => i = .int .i64 0) (fun _ => 0)
    case atStart => rfl
    case round =>
      obtain rfl := hrel
      go_wp2
      go_ret
      rw [hR.out]
      exact ⟨_, rfl, hO, hB⟩
  | some ad =>
    by_cases hc : n1 = t.length
    · subst hc
      go_wp2_with fail
      (try rw [t3])
      go_loop [29] (fun i => i = .int .i64 0) (fun _ => 0)
      case atStart => rfl
      case round =>
        obtain rfl := hrel
        go_wp2
        go_ret
        rw [hR.out]
        exact ⟨_, rfl, hO, hB⟩
    · have hc2 : t.length < n1 := by omega
      go_wp2_with fail
      (try rw [t3])
      go_loop [29] (fun i => i = .int .i64 0) (fun _ => 0)
      case atStart => rfl
      case round =>
        obtain rfl := hrel
        go_wp2
        go_ret
        rw [hR.out]
        exact ⟨_, rfl, hO, hB⟩
end Go.Proofs.Ytijeabhfddaoaaa
