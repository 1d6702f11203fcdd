/- The walks of sherdref32.Has, sherdref37.least, Dealers, Helpers, Targets. -/
import Derived.Test.YtacbenjfiabegaaHf
import Derived.Test.YtacbenjfiabegaaA08
namespace Go.Proofs.Ytacbenjfiabegaa
set_option linter.unusedVariables false
set_option linter.unusedSimpArgs false
open Go.RowKit Go.Proofs.YtacbenjfiabegaaW.PrintWords Go.Proofs.Sh

theorem mem_take_succ (l : List Int) (x : Int) (k : Nat) (h : k < l.length) : x ∈ l.take (k + 1) ↔ x ∈ l.take k ∨ l.getD k 0 = x := by
  rw [take_snoc' l k 0 h, List.mem_append, List.mem_singleton]
  exact ⟨fun a => a.imp id Eq.symm, fun a => a.imp id Eq.symm⟩
set_option maxRecDepth 100000 in
set_option maxHeartbeats 1600000 in
theorem rHas_c (v : Value) (l : List Int) (x : Int) (w : World) (hv : Ri w v l) :
   Calls Try.prog 84 #[v, .int .i64 x] w fun e w' => e = .returned (.bool (decide (x ∈ l))) ∧ w = w' := by
  obtain ⟨A, c, rfl, hc, hr⟩ := hv
  have hl := ri_len hr
  go_enter Try.func84, Try.ntmps84
  go_wp2
  go_loopw [5] (fun i wr => ∃ k : Nat, k ≤ l.length ∧ i = .int .i64 k ∧ Hid (x ∉ l.take k) ∧ w = wr) (fun i _ => l.length - (intOf i).toNat)
  case atStart => exact ⟨0, by omega, rfl, Lib.hid (by simp), rfl⟩
  case round =>
    obtain ⟨k, hk, rfl, hn, rfl⟩ := hrel
    by_cases hlt : k < l.length
    · obtain ⟨ad, rfl, d0⟩ := ki_at hr k hlt
      have hm : Hid (l.getD k 0 ∈ l) := Lib.hid (by rw [List.getD_eq_getElem?_getD, List.getElem?_eq_getElem hlt]; exact List.getElem_mem hlt)
      have hs := Lib.hid (mem_take_succ l x k hlt)
      generalize l.getD k 0 = y at *
      by_cases he : y = x
      · subst he
        have h1 : Hid (decide (y ∈ l) = true) := Lib.hid (decide_eq_true hm.out)
        clear hs hm hn
        go_wp2
        go_ret
        rw [h1.out]
        exact ⟨rfl, rfl⟩
      · have t1 : (y == x) = false := beq_eq_false_iff_ne.2 he
        have hn2 : Hid (x ∉ l.take (k + 1)) := Lib.hid (fun h => (hs.out.1 h).elim hn.out he)
        clear he hs hn hm
        go_wp2
        exact ⟨⟨k + 1, by omega, by go_num, hn2, trivial⟩, by simp [intOf]; omega⟩
    · obtain rfl : k = l.length := by omega
      have h1 := hn.out
      rw [List.take_length] at h1
      have h2 : Hid (decide (x ∈ l) = false) := Lib.hid (decide_eq_false h1)
      clear h1 hn
      go_wp2
      go_ret
      rw [h2.out]
      exact ⟨rfl, rfl⟩
/-- The numbers 1, 2, .. up to k that are good. -/
def candL (q : Int → Bool) (k : Nat) : List Int := ((List.range k).map fun i => ((i + 1 : Nat) : Int)).filter q
theorem cand_yes {q : Int → Bool} {k : Nat} (h : q ((k + 1 : Nat) : Int) = true) : candL q (k + 1) = candL q k ++ [((k + 1 : Nat) : Int)] := by
  unfold candL
  rw [List.range_succ, List.map_append, List.filter_append]
  simp only [List.map_cons, List.map_nil]
  rw [List.filter_cons_of_pos h, List.filter_nil]
theorem cand_no {q : Int → Bool} {k : Nat} (h : q ((k + 1 : Nat) : Int) = false) : candL q (k + 1) = candL q k := by
  unfold candL
  rw [List.range_succ, List.map_append, List.filter_append]
  simp only [List.map_cons, List.map_nil]
  rw [List.filter_cons_of_neg (by rw [h]; simp), List.filter_nil, List.append_nil]
theorem cand_len (q : Int → Bool) (k : Nat) : (candL q k).length ≤ k := by
  unfold candL
  refine Nat.le_trans (List.length_filter_le _ _) ?_
  simp
theorem cand_pre (q : Int → Bool) (k : Nat) : ∀ d, ∃ r, candL q (k + d) = candL q k ++ r
  | 0 => ⟨[], by simp⟩
  | d + 1 => by
    obtain ⟨r, hr⟩ := cand_pre q k d
    cases h : q ((k + d + 1 : Nat) : Int) with
    | true => exact ⟨r ++ [((k + d + 1 : Nat) : Int)], by rw [← Nat.add_assoc, cand_yes h, hr, List.append_assoc]⟩
    | false => exact ⟨r, by rw [← Nat.add_assoc, cand_no h, hr]⟩
theorem cand_few (q : Int → Bool) (N m : Nat) (h : (candL q N).length < m) : firstL (candL q N) m = [] ∧ firstB (candL q N) m = false :=
  ⟨if_pos (.inr (by omega)), decide_eq_false (by omega)⟩
theorem cand_enough (q : Int → Bool) (N k m : Nat) (hk : k ≤ N) (hm : 1 ≤ m) (h : (candL q k).length = m) : firstL (candL q N) m = candL q k ∧ firstB (candL q N) m = true := by
  obtain ⟨d, rfl⟩ : ∃ d, N = k + d := ⟨N - k, by omega⟩
  obtain ⟨r, hr⟩ := cand_pre q k d
  have hlen : (candL q (k + d)).length = m + r.length := by rw [hr, List.length_append, h]
  refine ⟨?_, decide_eq_true (by omega)⟩
  unfold firstL
  rw [if_neg (by omega), hr, Int.toNat_natCast, ← h, List.take_left']
  rfl
def goodC (l : List Int) (but : Int) : Int → Bool := fun y => decide (y ∈ l ∧ y ≠ but)
theorem pickC_cand {p : Pl} (h : p.Ok) (l : List Int) (but : Int) : pickC p l but = candL (goodC l but) p.N.toNat := if_pos h
set_option maxRecDepth 100000 in
set_option maxHeartbeats 3200000 in
theorem least_c (p : Pl) (h : p.Ok) (u : Value) (l : List Int) (but : Int) (m : Nat) (hm : 1 ≤ m) (hm2 : m ≤ 1000) (w : World) (hu : Ri w u l) :
   Calls Try.prog 81 #[planV p, u, .int .i64 but, .int .i64 m] w fun e w' => ∃ z, e = .returned (.tuple #[z, .bool (firstB (pickC p l but) m)]) ∧ Ri w' z (firstL (pickC p l but) m) ∧ Below w.heap.size w w' := by
  obtain ⟨N, hN⟩ : ∃ N : Nat, p.N = N := ⟨p.N.toNat, by have := h.t; have := h.l; have := h.tl; have := h.wn; omega⟩
  have hN2 : N ≤ 256 := by have := h.nl; have := h.l; omega
  rw [pickC_cand h, hN, Int.toNat_natCast]
  replace hN := Lib.hid hN
  have HP := Blk.new w (planC p) 48
  have hB := below_alloc (Below.refl w.heap.size w) (.cells (planC p) 48)
  replace hu := Lib.hid hu
  clear h
  go_enter Try.func81, Try.ntmps81
  go_wp2_with fail
  generalize w.alloc (.cells (planC p) 48) = w1 at *
  go_loopw [10, 11] (fun v i wr => ∃ k : Nat, k ≤ N ∧ i = .int .i64 ((k + 1 : Nat) : Int) ∧ Oi w wr v (candL (goodC l but) k) ∧ (candL (goodC l but) k).length ≤ m ∧ Below w.heap.size w wr ∧ Blk wr w.heap.size (planC p) 48) (fun _ i _ => N + 1 - (intOf i).toNat)
  case atStart => exact ⟨0, by omega, by simp, Own.nil _ _ _ _, by simp [candL], hB, HP⟩
  case round =>
    clear HP hB
    obtain ⟨k, hk, rfl, hO, hlm, hB, HP⟩ := hrel
    have c0 := (isPlan_blk HP).n
    rw [hN.out] at c0
    have hll := cand_len (goodC l but) k
    obtain ⟨A1, n1, rfl⟩ := rk_form (Own.rk hO)
    have hC := Lib.hid (fun hq => cand_yes (q := goodC l but) (k := k) hq)
    have hC2 := Lib.hid (fun hq => cand_no (q := goodC l but) (k := k) hq)
    have hF := Lib.hid (fun hq => cand_few (goodC l but) k m hq)
    have hE := Lib.hid (fun hq => cand_enough (goodC l but) N k m hk hm hq)
    generalize hcl : candL (goodC l but) k = out at *
    by_cases hlt : k < N
    · have t1 : decide (((k + 1 : Nat) : Int) ≤ (N : Int)) = true := decide_eq_true (by omega)
      by_cases hlt2 : out.length < m
      · have t2 : decide ((out.length : Int) < (m : Int)) = true := decide_eq_true (by omega)
        by_cases hb : ((k + 1 : Nat) : Int) = but
        · have t3 : (((k : Int) + 1) != but) = false := by rw [← hb]; simp
          have h1 := Lib.hid (hC2.out (decide_eq_false (fun a => a.2 hb)))
          clear hC hC2 hF hE hcl hb
          go_wp2
          exact ⟨⟨k + 1, by omega, by go_num, by rw [h1.out]; exact hO, by rw [h1.out]; omega, hB, HP⟩, by simp [intOf]; omega⟩
        · have t3 : (((k : Int) + 1) != but) = true := by rw [bne_iff_ne]; intro e; exact hb (by rw [← e]; rfl)
          have hh := rHas_c u l ((k + 1 : Nat) : Int) wr (hu.out.below hB)
          by_cases hx : ((k + 1 : Nat) : Int) ∈ l
          · rw [decide_eq_true hx] at hh
            have h1 := Lib.hid (hC.out (decide_eq_true ⟨hx, hb⟩))
            clear hC hC2 hF hE hcl hb hx
            go_wp2_with fail
            refine hh.mono ?_
            rintro e w2 ⟨rfl, rfl⟩
            clear hh
            go_wp2_with (at_builtin; refine app_one (enc := Value.int .i64) rfl (.tmp 32) (.tmp 34) 53 3 (.int .i64 0) 8 rfl Try.underlying53 infoI rfl (by decide) _ _ ((k + 1 : Nat) : Int) rfl rfl _ (iV_eq ?hc) hO hB ?hl ?_; (case hc => (first | rfl | omega | (simp; done) | (simp; omega))); (case hl => (first | (simp; omega) | omega)); intro v1 w1 ho hb hg)
            exact ⟨⟨k + 1, by omega, by go_num, by rw [h1.out]; exact ho, by rw [h1.out]; simp; omega, hb, HP.grown hO (by decide) hg⟩, by simp [intOf]; omega⟩
          · rw [decide_eq_false hx] at hh
            have h1 := Lib.hid (hC2.out (decide_eq_false (fun a => hx a.1)))
            clear hC hC2 hF hE hcl hb hx
            go_wp2_with fail
            refine hh.mono ?_
            rintro e w2 ⟨rfl, rfl⟩
            clear hh
            go_wp2
            exact ⟨⟨k + 1, by omega, by go_num, by rw [h1.out]; exact hO, by rw [h1.out]; omega, hB, HP⟩, by simp [intOf]; omega⟩
      · have t2 : decide ((out.length : Int) < (m : Int)) = false := decide_eq_false (by omega)
        have h1 := Lib.hid (hE.out (by omega))
        have hR := Lib.hid (Own.rk hO)
        have hB := Lib.hid hB
        clear hC hC2 hF hE hcl
        go_wp2
        go_ret2
        rw [h1.out.1, h1.out.2]
        exact ⟨_, rfl, hR.out, hB.out⟩
    · obtain rfl : k = N := by omega
      have t1 : decide (((k + 1 : Nat) : Int) ≤ (k : Int)) = false := decide_eq_false (by omega)
      by_cases hlt2 : out.length < m
      · have t2 : decide ((out.length : Int) < (m : Int)) = true := decide_eq_true (by omega)
        have h1 := hF.out hlt2
        rw [← hcl] at h1
        replace h1 := Lib.hid h1
        have hB := Lib.hid hB
        clear hC hC2 hF hE hcl
        go_wp2
        go_ret2
        rw [h1.out.1, h1.out.2]
        exact ⟨_, rfl, Rk.nil _ _, hB.out⟩
      · have t2 : decide ((out.length : Int) < (m : Int)) = false := decide_eq_false (by omega)
        have h1 := Lib.hid (hE.out (by omega))
        have hR := Lib.hid (Own.rk hO)
        have hB := Lib.hid hB
        clear hC hC2 hF hE hcl
        go_wp2
        go_ret2
        rw [h1.out.1, h1.out.2]
        exact ⟨_, rfl, hR.out, hB.out⟩
theorem isC_ok {p : Pl} (h : p.Ok) (i : Int) : isC p i = decide (1 ≤ i ∧ i ≤ p.N) := decide_eq_decide.2 ⟨fun a => a.2, fun a => ⟨h, a⟩⟩
theorem isC_no {p : Pl} (h : ¬ p.Ok) (i : Int) : isC p i = false := decide_eq_false (fun a => h a.1)
theorem deal_no {p : Pl} (h : ¬ p.Ok) (l : List Int) : dealL p l = [] ∧ dealB p l = false := by
  unfold dealL dealB dealN
  rw [if_neg h]
  exact ⟨if_pos (.inl (by decide)), decide_eq_false (by omega)⟩
set_option maxRecDepth 100000 in
set_option maxHeartbeats 1600000 in
theorem rcDealers_c (p : Pl) (hi : p.In) (u : Value) (l : List Int) (w : World) (hu : Ri w u l) :
   Calls Try.prog 45 #[planV p, u] w fun e w' => ∃ z, e = .returned (.tuple #[z, .bool (dealB p l)]) ∧ Ri w' z (dealL p l) ∧ Below w.heap.size w w' := by
  have HP := Blk.new w (planC p) 48
  have hB := below_alloc (Below.refl w.heap.size w) (.cells (planC p) 48)
  obtain ⟨c0, c1, c2, c3, c4, c5⟩ := cells6 HP
  replace hu := Lib.hid hu
  go_enter Try.func45, Try.ntmps45
  go_wp2_with fail
  by_cases h : p.Ok
  · refine (rRight_yes p h _).mono ?_
    rintro e w1 ⟨rfl, h1⟩
    have HP := HP.below h1
    have hB := bt_ hB h1
    obtain ⟨c0, c1, c2, c3, c4, c5⟩ := cells6 HP
    obtain ⟨T, hT⟩ : ∃ T : Nat, p.T = T := ⟨p.T.toNat, by have := h.t; omega⟩
    have hT2 : T ≤ 256 := by have := h.t; have := h.l; have := h.tl; have := h.wn; have := h.nl; omega
    have t1 : IntKind.i64.wrap (p.T + 1) = ((T + 1 : Nat) : Int) := by rw [hT, wrapI _ (by omega) (by omega)]; rfl
    have hd : dealN p = ((T + 1 : Nat) : Int) := by rw [dealN, if_pos h, hT]; rfl
    have hL := least_c p h u l 0 (T + 1) (by omega) (by omega) w1 (hu.out.below hB)
    rw [← hd] at hL
    rw [← hd] at t1
    replace hL := Lib.hid hL
    clear hT hd h
    go_wp2_with fail
    refine hL.out.mono ?_
    rintro e w2 ⟨z, rfl, hz, h2⟩
    have hB2 := bt_ hB h2
    go_wp2
    go_ret2
    exact ⟨_, rfl, hz, hB2⟩
  · refine (rRight_no p hi h _).mono ?_
    rintro e w1 ⟨rfl, h1⟩
    have hB := bt_ hB h1
    have hd := Lib.hid (deal_no h l)
    clear h
    go_wp2
    go_ret2
    rw [hd.out.1, hd.out.2]
    exact ⟨_, rfl, Rk.nil _ _, hB⟩
set_option maxRecDepth 100000 in
set_option maxHeartbeats 1600000 in
theorem rcHelpers_no (p : Pl) (hi : p.In) (u : Value) (t : Int) (w : World) (ht : isC p t = false) :
   Calls Try.prog 46 #[planV p, u, .int .i64 t] w fun e w' => e = .returned (.tuple #[.slice none 0 0, .bool false]) ∧ Below w.heap.size w w' := by
  have HP := Blk.new w (planC p) 48
  have hB := below_alloc (Below.refl w.heap.size w) (.cells (planC p) 48)
  obtain ⟨c0, c1, c2, c3, c4, c5⟩ := cells6 HP
  replace ht := Lib.hid ht
  go_enter Try.func46, Try.ntmps46
  go_wp2_with fail
  by_cases h : p.Ok
  · refine (rRight_yes p h _).mono ?_
    rintro e w1 ⟨rfl, h1⟩
    have HP := HP.below h1
    have hB := bt_ hB h1
    obtain ⟨c0, c1, c2, c3, c4, c5⟩ := cells6 HP
    go_wp2_with fail
    refine (rIs_c p t _).mono ?_
    rw [← isC_ok h, ht.out]
    rintro e w2 ⟨rfl, h2⟩
    have hB := bt_ hB h2
    go_wp2
    go_ret2
    exact ⟨rfl, hB⟩
  · refine (rRight_no p hi h _).mono ?_
    rintro e w1 ⟨rfl, h1⟩
    have hB := bt_ hB h1
    clear h
    go_wp2
    go_ret2
    exact ⟨rfl, hB⟩
theorem isC_1 {p : Pl} {t : Int} (h : isC p t = true) : p.Ok := (of_decide_eq_true h).1
set_option maxRecDepth 100000 in
set_option maxHeartbeats 1600000 in
theorem rcHelpers_c (p : Pl) (u : Value) (l : List Int) (t : Int) (w : World) (hu : Ri w u l) (ht : isC p t = true) :
   Calls Try.prog 46 #[planV p, u, .int .i64 t] w fun e w' => ∃ z, e = .returned (.tuple #[z, .bool (helpB p l t)]) ∧ Ri w' z (helpL p l t) ∧ Below w.heap.size w w' := by
  have HP := Blk.new w (planC p) 48
  have hB := below_alloc (Below.refl w.heap.size w) (.cells (planC p) 48)
  obtain ⟨c0, c1, c2, c3, c4, c5⟩ := cells6 HP
  have h := isC_1 ht
  replace ht := Lib.hid ht
  replace hu := Lib.hid hu
  go_enter Try.func46, Try.ntmps46
  go_wp2_with fail
  refine (rRight_yes p h _).mono ?_
  rintro e w1 ⟨rfl, h1⟩
  have HP := HP.below h1
  have hB := bt_ hB h1
  obtain ⟨c0, c1, c2, c3, c4, c5⟩ := cells6 HP
  go_wp2_with fail
  refine (rIs_c p t _).mono ?_
  rw [← isC_ok h, ht.out]
  rintro e w2 ⟨rfl, h2⟩
  have HP := HP.below h2
  have hB := bt_ hB h2
  obtain ⟨c0, c1, c2, c3, c4, c5⟩ := cells6 HP
  obtain ⟨T, hT⟩ : ∃ T : Nat, p.T + p.L = T := ⟨(p.T + p.L).toNat, by have := h.t; have := h.l; omega⟩
  have hT1 : 1 ≤ T := by have := h.t; have := h.l; omega
  have hT2 : T ≤ 256 := by have := h.t; have := h.l; have := h.tl; have := h.wn; have := h.nl; omega
  have t1 : IntKind.i64.wrap (p.T + p.L) = (T : Int) := by rw [hT, wrapI _ (by omega) (by omega)]
  have hd : needN p = (T : Int) := by rw [needN, if_pos h, hT]
  have hL := least_c p h u l t T (by omega) (by omega) w2 (hu.out.below hB)
  rw [← hd] at hL
  rw [← hd] at t1
  replace hL := Lib.hid hL
  clear hT hd h
  go_wp2_with fail
  refine hL.out.mono ?_
  rintro e w3 ⟨z, rfl, hz, h3⟩
  have hB2 := bt_ hB h3
  go_wp2
  go_ret2
  exact ⟨_, rfl, hz, hB2⟩
theorem targL_cand {p : Pl} (h : p.Ok) (l : List Int) : targL p l = candL (fun y => decide (y ∉ l)) p.N.toNat := by
  unfold targL allN
  rw [if_pos h]
  rfl
set_option maxRecDepth 100000 in
set_option maxHeartbeats 1600000 in
theorem rcTargets_no (p : Pl) (hi : p.In) (h : ¬ p.Ok) (u : Value) (w : World) :
   Calls Try.prog 49 #[planV p, u] w fun e w' => e = .returned (.slice none 0 0) ∧ Below w.heap.size w w' := by
  have HP := Blk.new w (planC p) 48
  have hB := below_alloc (Below.refl w.heap.size w) (.cells (planC p) 48)
  obtain ⟨c0, c1, c2, c3, c4, c5⟩ := cells6 HP
  go_enter Try.func49, Try.ntmps49
  go_wp2_with fail
  go_loopw [5, 6] (fun v i wr => v = .slice none 0 0 ∧ i = .int .i64 1 ∧ Below w.heap.size w wr ∧ Blk wr w.heap.size (planC p) 48) (fun _ _ _ => 0)
  case atStart => exact ⟨rfl, rfl, hB, HP⟩
  case round =>
    clear HP hB c0 c1 c2 c3 c4 c5
    obtain ⟨rfl, rfl, hB, HP⟩ := hrel
    obtain ⟨c0, c1, c2, c3, c4, c5⟩ := cells6 HP
    go_wp2_with fail
    refine (rRight_no p hi h _).mono ?_
    rintro e w1 ⟨rfl, h1⟩
    have hB := bt_ hB h1
    go_wp2
    go_ret
    exact ⟨rfl, hB⟩
set_option maxRecDepth 100000 in
set_option maxHeartbeats 1600000 in
theorem rcTargets_yes (p : Pl) (h : p.Ok) (u : Value) (l : List Int) (w : World) (hu : Ri w u l) :
   Calls Try.prog 49 #[planV p, u] w fun e w' => ∃ z, e = .returned z ∧ Ri w' z (targL p l) ∧ Below w.heap.size w w' := by
  obtain ⟨N, hN⟩ : ∃ N : Nat, p.N = N := ⟨p.N.toNat, by have := h.t; have := h.l; have := h.tl; have := h.wn; omega⟩
  have hN2 : N ≤ 256 := by have := h.nl; have := h.l; omega
  rw [targL_cand h, hN, Int.toNat_natCast]
  replace hN := Lib.hid hN
  have HP := Blk.new w (planC p) 48
  have hB := below_alloc (Below.refl w.heap.size w) (.cells (planC p) 48)
  replace hu := Lib.hid hu
  go_enter Try.func49, Try.ntmps49
  go_wp2_with fail
  generalize w.alloc (.cells (planC p) 48) = w1 at *
  go_loopw [5, 6] (fun v i wr => ∃ k : Nat, k ≤ N ∧ i = .int .i64 ((k + 1 : Nat) : Int) ∧ Oi w wr v (candL (fun y => decide (y ∉ l)) k) ∧ Below w.heap.size w wr ∧ Blk wr w.heap.size (planC p) 48) (fun _ i _ => N + 1 - (intOf i).toNat)
  case atStart => exact ⟨0, by omega, by simp, Own.nil _ _ _ _, hB, HP⟩
  case round =>
    clear HP hB
    obtain ⟨k, hk, rfl, hO, hB, HP⟩ := hrel
    obtain ⟨c0, c1, c2, c3, c4, c5⟩ := cells6 HP
    have hC := Lib.hid (fun hq => cand_yes (q := fun y => decide (y ∉ l)) (k := k) hq)
    have hC2 := Lib.hid (fun hq => cand_no (q := fun y => decide (y ∉ l)) (k := k) hq)
    have hll := cand_len (fun y => decide (y ∉ l)) k
    go_wp2_with fail
    refine (rRight_yes p h _).mono ?_
    rintro e w2 ⟨rfl, h1⟩
    replace hO := hO.below h1
    have HP := HP.below h1
    have hB := bt_ hB h1
    obtain ⟨c0, c1, c2, c3, c4, c5⟩ := cells6 HP
    clear h1
    rw [hN.out] at c0
    obtain ⟨A1, n1, rfl⟩ := rk_form (Own.rk hO)
    generalize hcl : candL (fun y => decide (y ∉ l)) k = out at *
    by_cases hlt : k < N
    · have t1 : decide (((k + 1 : Nat) : Int) ≤ (N : Int)) = true := decide_eq_true (by omega)
      have hh := rHas_c u l ((k + 1 : Nat) : Int) w2 (hu.out.below hB)
      by_cases hx : ((k + 1 : Nat) : Int) ∈ l
      · rw [decide_eq_true hx] at hh
        have h1 := Lib.hid (hC2.out (decide_eq_false (fun a => a hx)))
        clear hC hC2 hcl hx
        go_wp2_with fail
        refine hh.mono ?_
        rintro e w3 ⟨rfl, rfl⟩
        clear hh
        go_wp2
        exact ⟨⟨k + 1, by omega, by go_num, by rw [h1.out]; exact hO, hB, HP⟩, by simp [intOf]; omega⟩
      · rw [decide_eq_false hx] at hh
        have h1 := Lib.hid (hC.out (decide_eq_true hx))
        clear hC hC2 hcl hx
        go_wp2_with fail
        refine hh.mono ?_
        rintro e w3 ⟨rfl, rfl⟩
        clear hh
        go_wp2_with (at_builtin; refine app_one (enc := Value.int .i64) rfl (.tmp 21) (.tmp 23) 53 3 (.int .i64 0) 8 rfl Try.underlying53 infoI rfl (by decide) _ _ ((k + 1 : Nat) : Int) rfl rfl _ (iV_eq ?hc) hO hB ?hl ?_; (case hc => (first | rfl | omega | (simp; done) | (simp; omega))); (case hl => (first | (simp; omega) | omega)); intro v1 w1 ho hb hg)
        exact ⟨⟨k + 1, by omega, by go_num, by rw [h1.out]; exact ho, hb, HP.grown hO (by decide) hg⟩, by simp [intOf]; omega⟩
    · obtain rfl : k = N := by omega
      have t1 : decide (((k + 1 : Nat) : Int) ≤ (k : Int)) = false := decide_eq_false (by omega)
      have hR := Lib.hid (Own.rk hO)
      have hcl := Lib.hid hcl
      clear hC hC2
      go_wp2
      go_ret
      rw [hcl.out]
      exact ⟨_, rfl, hR.out, hB⟩
theorem rcTargets_c (p : Pl) (hi : p.In) (u : Value) (l : List Int) (w : World) (hu : Ri w u l) :
   Calls Try.prog 49 #[planV p, u] w fun e w' => ∃ z, e = .returned z ∧ Ri w' z (targL p l) ∧ Below w.heap.size w w' := by
  by_cases h : p.Ok
  · exact rcTargets_yes p h u l w hu
  · refine (rcTargets_no p hi h u w).mono fun e w' ⟨he, hB⟩ => ⟨_, he, ?_, hB⟩
    unfold targL allN
    rw [if_neg h]
    exact Rk.nil _ _
end Go.Proofs.Ytacbenjfiabegaa
