/- The walk of the law ChooseUnseen. -/
import Derived.Test.YtacbenjfiabegaaHj
import Derived.Test.YtacbenjfiabegaaM11
import Derived.Maps.AppendAt
import Derived.Laws.Append
namespace Go.Proofs.Ytacbenjfiabegaa
set_option linter.unusedVariables false
set_option linter.unusedSimpArgs false
open Go.RowKit Go.Proofs.YtacbenjfiabegaaW.PrintWords Go.Proofs.Sh

set_option maxRecDepth 100000 in
theorem app_lit {w0 W : World} {g : Nat} {x : Int} (HO : Oi w0 W (.slice (some ⟨g, 0, none⟩) 1 1) [x]) (HB : Below w0.heap.size w0 W) {u : Value} {ys : List Int} (HR : Ri W u ys) (hl : ys.length ≤ 1000000) (ty : TypeId) :
    ∃ v1 W1, (Builtin.append_ #[53, 53] ty #[.slice (some ⟨g, 0, none⟩) 1 1, u]).run Try.prog W = .ok v1 W1 ∧ Oi w0 W1 v1 (x :: ys) ∧ Below W.heap.size W W1 := by
  obtain ⟨i0, hi, hzz⟩ := Option.map_eq_some_iff.1 infoI
  simp only [Prod.mk.injEq] at hzz
  obtain ⟨hz0, hz1, hz2⟩ := hzz
  obtain ⟨A, c, rfl, hc, hr⟩ := HR
  rcases Nat.eq_zero_or_pos ys.length with h0 | h0
  · obtain rfl : ys = [] := List.eq_nil_of_length_eq_zero h0
    refine ⟨_, W, ?_, HO, Below.refl _ _⟩
    rcases A with _ | ad
    · simp [Builtin.append_, run_underlying Try.underlying53, sizeOf, typeInfo, hi, Builtin.lenOf, Builtin.firstCells, storeCells]
    · have hf := run_firstCells_some (P := Try.prog) W i0.size 0 ad 0 c [] (by simp) (by simp)
      simp [Builtin.append_, run_underlying Try.underlying53, sizeOf, typeInfo, hi, Builtin.lenOf, hf, storeCells]
  · obtain ⟨ad, rfl, _⟩ := ki_at hr 0 h0
    have hnews : ∀ (j : Nat) (v : Value), (ys.map (Value.int .i64))[j]? = some v → W.cell? (ad.add j) = some v := by
      intro j v hj
      rw [List.getElem?_map] at hj
      obtain ⟨y, hy, rfl⟩ := Option.map_eq_some_iff.1 hj
      have hlt : j < ys.length := (List.getElem?_eq_some_iff.1 hy).1
      obtain ⟨ad', e, hcj⟩ := ki_at hr j hlt
      injection e with e
      subst e
      rw [hcj, List.getD_eq_getElem?_getD, hy]
      rfl
    have hcell : ∀ (j : Nat) (v : Value), ([Value.int .i64 x])[j]? = some v → W.cell? ((⟨g, 0, none⟩ : Addr).add j) = some v := by
      intro j v hj
      obtain rfl : j = 0 := by
        have := (List.getElem?_eq_some_iff.1 hj).1
        simp at this
        exact this
      simp at hj
      subst hj
      exact (HO.at 0 (by simp)).1
    have hfit := growslice_fits (need := 1 + ys.length) (old := 1) (bytes := i0.bytes) (by omega) (by rw [hz2]; omega)
    have r2 := run_append_grow (P := Try.prog) W 53 ty 3 i0 _ Try.underlying53 hi hz0 ⟨g, 0, none⟩ 1 1 [Value.int .i64 x] (by rw [hz1]; rfl) hcell ad ys.length c (ys.map (Value.int .i64)) (by rw [hz1]; simp) hnews (by omega) (by omega) hfit
    obtain ⟨v1, w1, r1, hown, _, _, _⟩ := run_append_own_at (P := Try.prog) W w0.heap.size 53 ty 3 i0 _ 1 8 Try.underlying53 hi hz0 hz1 hz2 rfl Nat.one_pos (.slice (some ⟨g, 0, none⟩) 1 1) 1 [Value.int .i64 x] (oi_own HO) ad ys.length c (ys.map (Value.int .i64)) (by simp) hnews (by intro u hu; obtain ⟨y, _, rfl⟩ := List.mem_map.1 hu; rfl) (by simp only [maxLen]; omega) (by omega) HB.size
    refine ⟨v1, w1, r1, ?_, ?_⟩
    · refine own_oi ?_
      rw [List.length_cons, Nat.add_comm]
      exact hown
    · rw [r1] at r2
      injection r2 with e1 e2
      rw [e2]
      exact below_alloc (below_drew (Below.refl _ _)) _
theorem wp_app_lit {o : Oper} {a : Act} {K : Act → World → Prop} {Q : Exit → Act → World → Prop} {w0 W : World} {g : Nat} {x : Int} {u : Value} {ys : List Int} (s xx : Operand)
    (ho : o.op = .call { callee := .builtin .append, args := #[s, xx], argTypes := #[53, 53] }) (hs : a.eval s = .slice (some ⟨g, 0, none⟩) 1 1) (hx : a.eval xx = u)
    (HO : Oi w0 W (.slice (some ⟨g, 0, none⟩) 1 1) [x]) (HB : Below w0.heap.size w0 W) (HR : Ri W u ys) (hl : ys.length ≤ 1000000)
    (h : ∀ v1 W1, Oi w0 W1 v1 (x :: ys) → Below W.heap.size W W1 → K (a.put o.dst v1) W1) : Oper.wp Try.prog o a W K Q := by
  obtain ⟨v1, w1, r1, h1, h2⟩ := app_lit HO HB HR hl o.type
  unfold Oper.wp execOp
  simp only [ho, resolve, invoke, builtin, Sem.run_bind, Sem.run_pure, Result.andThen_ok, List.map_toArray, List.map_cons, List.map_nil, hs, hx, r1]
  exact h v1 w1 h1 h2
/-- A literal of one number, of one's own. -/
def isLit (w0 : World) (x : Int) : Value → World → Prop := fun v W => ∃ g, v = .slice (some ⟨g, 0, none⟩) 1 1 ∧ Oi w0 W v [x]
theorem last_Lit (w0 : World) (x : Int) : Lasts (isLit w0 x) := fun _ _ _ ⟨g, h1, h2⟩ hB => ⟨g, h1, Own.below h2 hB⟩
theorem rest_all {l r : List Int} (hp : l.Pairwise (· < ·)) (h : IsRest l [] r) : r = l := rise_eq _ _ h.1 hp (fun y => by rw [h.2]; simp)
theorem rest_but {l r : List Int} {t : Int} (hp : l.Pairwise (· < ·)) (ht : t ∉ l) (h : IsRest l [t] r) : r = l :=
  rise_eq _ _ h.1 hp (fun y => by
    rw [h.2, List.mem_singleton]
    exact ⟨fun a => a.1, fun a => ⟨a, fun e => ht (e ▸ a)⟩⟩)
set_option maxRecDepth 100000 in
set_option maxHeartbeats 1600000 in
theorem free_c (v u : Value) (l s : List Int) (w : World) (hv : Ri w v l) (hu : Ri w u s) (hl : l.length ≤ 100000) (hp : l.Pairwise (· < ·)) (hx : ∃ y, y ∈ l ∧ y ∉ s) :
   Calls Try.prog 43 #[v, u] w fun e w' => e = .returned (.bool true) ∧ Below w.heap.size w w' := by
  obtain ⟨A, c, rfl⟩ := rk_form hv
  replace hx := Lib.hid hx
  replace hu := Lib.hid hu
  have hlm := ri_len (rk_C hv)
  go_enter Try.func43, Try.ntmps43
  go_wp2_with fail
  refine (rest_c _ _ l [] _ hv (Rk.nil _ _) hl).mono ?_
  rintro e w1 ⟨v1, r1, rfl, o1, h1, q1⟩
  rw [rest_all hp q1] at o1
  obtain ⟨A1, c1, rfl⟩ := rk_form o1.rk
  replace hv := hv.below h1
  replace hu := Lib.hid (hu.out.below h1)
  clear q1
  go_wp2_with fail
  refine (rest_c _ _ l s _ hv hu.out hl).mono ?_
  rintro e w2 ⟨v2, r2, rfl, o2, h2, q2⟩
  replace h2 := bt_ h1 h2
  obtain ⟨y, hy1, hy2⟩ := hx.out
  have h0 : 0 < r2.length := List.length_pos_of_mem ((q2.2 y).2 ⟨hy1, hy2⟩)
  obtain ⟨A2, c2, rfl⟩ := rk_form o2.rk
  have t1 : decide ((0 : Int) < (r2.length : Int)) = true := decide_eq_true (by omega)
  clear q2 hy1 hy2 hx
  go_wp2
  go_ret
  exact ⟨rfl, h2⟩
theorem first_yes {l : List Int} {n : Int} (h : firstB l n = true) : firstL l n = l.take n.toNat ∧ (((firstL l n).length : Nat) : Int) = n := by
  have h1 := of_decide_eq_true h
  have e : firstL l n = l.take n.toNat := if_neg (by omega)
  refine ⟨e, ?_⟩
  rw [e, List.length_take]
  omega
theorem some_free {l s : List Int} (hp : l.Pairwise (· < ·)) (hs : s.length < l.length) : ∃ y, y ∈ l ∧ y ∉ s := by
  refine Classical.byContradiction fun hn => ?_
  have := sub_len l s (List.nodup_iff_pairwise_ne.2 (hp.imp (fun a => by omega))) (fun x hx => Classical.byContradiction fun h => hn ⟨x, hx, h⟩)
  omega
theorem deal_free {p : Pl} (h : p.Ok) {l s : List Int} (hb : dealB p l = true) (hs : (s.length : Int) ≤ p.T) : (dealL p l).length ≤ 100000 ∧ (dealL p l).Pairwise (· < ·) ∧ ∃ y, y ∈ dealL p l ∧ y ∉ s := by
  obtain ⟨h1, h2⟩ := first_yes hb
  have hd : dealN p = p.T + 1 := if_pos h
  have hp : (dealL p l).Pairwise (· < ·) := by
    unfold dealL
    rw [h1]
    exact (pickC_rise p l 0).sublist (List.take_sublist _ _)
  change (((dealL p l).length : Nat) : Int) = dealN p at h2
  refine ⟨?_, hp, some_free hp (by omega)⟩
  have := h.t; have := h.l; have := h.tl; have := h.wn; have := h.nl
  omega
theorem help_free {p : Pl} (h : p.Ok) {l s : List Int} {t : Int} (hb : helpsB p l t = true) (hs : (s.length : Int) ≤ p.T) :
    (helpsL p l t).length ≤ 100000 ∧ (helpsL p l t).Pairwise (· < ·) ∧ (∃ y, y ∈ helpsL p l t ∧ y ∉ t :: s) ∧ (∀ r, IsRest (helpsL p l t) [t] r → r = helpsL p l t) ∧ (((helpsL p l t).length : Nat) : Int) = p.T + p.L := by
  unfold helpsB at hb
  rw [Bool.and_eq_true] at hb
  obtain ⟨h1, h2⟩ := first_yes hb.2
  have hd : needN p = p.T + p.L := if_pos h
  have e : helpsL p l t = helpL p l t := if_pos hb.1
  have hp : (helpL p l t).Pairwise (· < ·) := by
    unfold helpL
    rw [h1]
    exact (pickC_rise p l t).sublist (List.take_sublist _ _)
  have ht : t ∉ helpL p l t := by
    intro hm
    unfold helpL at hm
    rw [h1] at hm
    have := (mem_pickC p l t t).1 (List.mem_of_mem_take hm)
    exact this.1.2 (by simp)
  change (((helpL p l t).length : Nat) : Int) = needN p at h2
  rw [e]
  have hl := h.l
  refine ⟨?_, hp, ?_, fun r hr => rest_but hp ht hr, by omega⟩
  · have := h.t; have := h.tl; have := h.wn; have := h.nl
    omega
  · obtain ⟨y, hy, hn⟩ := some_free (s := s) hp (by omega)
    exact ⟨y, hy, fun hm => by
      rw [List.mem_cons] at hm
      rcases hm with rfl | hm
      · exact ht hy
      · exact hn hm⟩
theorem ch_hyps {p : Pl} (h : p.Ok) {l s : List Int} {t : Int} (hs : (s.length : Int) ≤ p.T) (hb : helpsB p l t = true) :
    IntKind.i64.wrap (p.T + p.L) = p.T + p.L ∧ ((((helpsL p l t).length : Nat) : Int) == p.T + p.L) = true := by
  have := h.t; have := h.l; have := h.tl; have := h.wn; have := h.nl
  exact ⟨wrapI _ (by omega) (by omega), beq_iff_eq.2 (help_free h hb hs).2.2.2.2⟩
set_option maxRecDepth 100000 in
set_option maxHeartbeats 3200000 in
theorem ChooseUnseen_c (p : Pl) (hi : p.In) (u : Value) (l : List Int) (v : Value) (s : List Int) (w : World) (hu : Ri w u l) (hs : Ri w v s) :
   Calls Try.prog 9 #[planV p, u, v] w fun e w' => e = .returned (.bool true) ∧ Below w.heap.size w w' := by
  obtain ⟨A, c, rfl⟩ := rk_form hu
  obtain ⟨B, d, rfl⟩ := rk_form hs
  have hlm := ri_len (rk_C hu)
  have hsm := ri_len (rk_C hs)
  have HP := Blk.new w (planC p) 48
  have hB := below_alloc (Below.refl w.heap.size w) (.cells (planC p) 48)
  obtain ⟨c0, c1, c2, c3, c4, c5⟩ := cells6 HP
  replace hu := Lib.hid (hu.below hB)
  replace hs := Lib.hid (hs.below hB)
  go_enter Try.func9, Try.ntmps9
  go_wp2_with fail
  by_cases h : p.Ok
  · refine (rRight_yes p h _).mono ?_
    rintro e w1 ⟨rfl, h1⟩
    replace hu := Lib.hid (hu.out.below h1)
    replace hs := Lib.hid (hs.out.below h1)
    have HP := HP.below h1
    have hB := bt_ hB h1
    obtain ⟨c0, c1, c2, c3, c4, c5⟩ := cells6 HP
    clear h1
    by_cases h100 : (100 : Int) < l.length
    · have t1 : decide ((100 : Int) < (l.length : Int)) = true := decide_eq_true h100
      clear h
      go_wp2_with fail
      refine (alive37_c _).mono ?_
      rintro e wX ⟨rfl, hX⟩
      replace hB := bt_ hB hX
      go_wp2
      go_ret
      exact ⟨rfl, hB⟩
    · have t1 : decide ((100 : Int) < (l.length : Int)) = false := decide_eq_false h100
      have hl : l.length ≤ 100000 := by omega
      by_cases hT : p.T < (s.length : Int)
      · have t2 : decide (p.T < (s.length : Int)) = true := decide_eq_true hT
        clear h
        go_wp2_with fail
        refine (alive37_c _).mono ?_
        rintro e wX ⟨rfl, hX⟩
        replace hB := bt_ hB hX
        go_wp2
        go_ret
        exact ⟨rfl, hB⟩
      · have t2 : decide (p.T < (s.length : Int)) = false := decide_eq_false hT
        have hsT : (s.length : Int) ≤ p.T := by omega
        by_cases h0 : (0 : Int) < (s.length : Int)
        · have t0 : decide ((0 : Int) < (s.length : Int)) = true := decide_eq_true h0
          have t0' : decide (0 < s.length) = true := decide_eq_true (by omega)
          obtain ⟨ad, rfl, d0⟩ := ki_at (rk_C hs.out) 0 (by omega)
          rw [show ad.add 0 = ad from by simp [Addr.add]] at d0
          generalize s.getD 0 0 = tg at *
          have hsl : Hid (s.length ≤ 1000000) := Lib.hid (by have := h.t; have := h.l; have := h.tl; have := h.wn; have := h.nl; omega)
          go_wp2_with fail
          refine (cDealers_c p _ l _ hu.out hl).mono ?_
          rintro e w2 ⟨za, rfl, ra, h1⟩
          replace hu := Lib.hid (hu.out.below h1)
          replace hs := Lib.hid (hs.out.below h1)
          have HP := HP.below h1
          have hB := bt_ hB h1
          obtain ⟨c0, c1, c2, c3, c4, c5⟩ := cells6 HP
          clear h1
          go_wp2_with fail
          refine (cHelps_c p _ l tg _ hu.out hl).mono ?_
          rintro e w3 ⟨zb, rfl, rb, h1⟩
          replace hu := Lib.hid (hu.out.below h1)
          replace hs := Lib.hid (hs.out.below h1)
          replace ra := Lib.hid (ra.below h1)
          replace rb := Lib.hid rb
          have HP := HP.below h1
          have hB := bt_ hB h1
          obtain ⟨c0, c1, c2, c3, c4, c5⟩ := cells6 HP
          clear h1
          go_upto_region 8 with fail
          generalize w3 = wB at *
          have hBo := hB
          clear hB c0 c1 c2 c3 c4 c5
          have hP := Lib.hid HP
          cases hdb : dealB p l with
          | false =>
            cases htb : helpsB p l tg with
            | false =>
              clear h
              clear hdb htb
              refine wp_region_tell [.v (.bool false), .v (.bool true), .v (.bool true), .v (undef), .v (undef), .v (undef), .v (.bool true), .v (.bool true), .v (.bool false), .v (.bool true), .v (.bool true), .v (undef), .v (undef), .v (undef), .v (undef), .v (undef), .v (undef), .v (.bool true), .v (.bool true), .v (undef), .v (undef), .v (undef), .v (undef), .v (undef), .v (undef), .v (undef), .v (undef), .v (.bool true), .v (.bool true), .v (.bool true), .v (.bool false), .v (.bool true), .v (.bool true), .v (undef), .v (undef), .v (undef), .v (undef), .v (undef), .v (undef), .v (undef), .v (undef), .v (undef), .v (undef), .v (undef), .v (.bool true), .v (.bool true), .v (.bool true), .v (.bool true), .v (.bool true), .v (.bool true)] [([], none), ([(0, some 47)], none), ([(1, some 48)], none), ([(2, some 49)], some (some 49, false)), ([(2, some 49)], some (some 49, false)), ([(2, some 49), (3, some 50), (4, some 51)], some (some 49, false)), ([(2, some 49), (5, some 52)], none), ([(6, some 53)], none), ([(7, some 54)], some (some 54, true)), ([(7, some 54), (8, some 55)], some (some 54, true)), ([(7, some 54), (9, some 56)], some (some 54, true)), ([(10, some 57)], some (some 57, false)), ([(10, some 57)], some (some 57, false)), ([(10, some 57), (12, some 59)], some (some 57, false)), ([(10, some 57)], some (some 57, false)), ([(10, some 57), (13, some 60), (14, some 61)], some (some 57, false)), ([(10, some 57), (11, some 58), (15, some 62)], some (some 57, false)), ([(7, some 54), (10, some 57), (16, some 63)], some (some 54, true)), ([(7, some 54), (17, some 64)], some (some 54, true)), ([(18, some 65)], some (some 65, false)), ([(18, some 65), (19, some 66)], some (some 65, false)), ([(18, some 65)], some (some 65, false)), ([(18, some 65), (21, some 68)], some (some 65, false)), ([(18, some 65)], some (some 65, false)), ([(18, some 65), (23, some 70)], some (some 65, false)), ([(18, some 65), (22, some 69), (24, some 71)], some (some 65, false)), ([(18, some 65), (20, some 67), (25, some 72)], some (some 65, false)), ([(7, some 54), (18, some 65), (26, some 73)], some (some 54, true)), ([(7, some 54), (27, some 74)], none), ([(28, some 75)], none), ([(29, some 76)], some (some 76, true)), ([(29, some 76), (30, some 77)], some (some 76, true)), ([(29, some 76), (31, some 78)], some (some 76, true)), ([(32, some 79)], some (some 79, false)), ([(32, some 79)], some (some 79, false)), ([(32, some 79), (34, some 81)], some (some 79, false)), ([(32, some 79), (33, some 80), (35, some 82)], some (some 79, false)), ([(32, some 79), (36, some 83)], some (some 79, false)), ([(32, some 79)], some (some 79, false)), ([(32, some 79), (38, some 85)], some (some 79, false)), ([(32, some 79)], some (some 79, false)), ([(32, some 79), (40, some 87)], some (some 79, false)), ([(32, some 79), (39, some 86), (41, some 88)], some (some 79, false)), ([(32, some 79), (37, some 84), (42, some 89)], some (some 79, false)), ([(29, some 76), (32, some 79), (43, some 90)], some (some 76, true)), ([(29, some 76), (44, some 91)], none), ([(45, some 92)], none), ([(46, some 93)], some (some 93, true)), ([(46, some 93), (47, some 94)], none), ([(48, some 95)], none)] [(0, some 47), (1, some 48), (2, some 49), (3, some 50), (4, some 51), (5, some 52), (6, some 53), (7, some 54), (8, some 55), (9, some 56), (10, some 57), (11, some 58), (12, some 59), (13, some 60), (14, some 61), (15, some 62), (16, some 63), (17, some 64), (18, some 65), (19, some 66), (20, some 67), (21, some 68), (22, some 69), (23, some 70), (24, some 71), (25, some 72), (26, some 73), (27, some 74), (28, some 75), (29, some 76), (30, some 77), (31, some 78), (32, some 79), (33, some 80), (34, some 81), (35, some 82), (36, some 83), (37, some 84), (38, some 85), (39, some 86), (40, some 87), (41, some 88), (42, some 89), (43, some 90), (44, some 91), (45, some 92), (46, some 93), (47, some 94), (48, some 95), (49, some 6)] (by kernel_rfl) (by kernel_rfl) (by kernel_rfl) (by kernel_rfl) (by exact ⟨trivial, trivial, trivial, trivial, trivial, trivial, trivial, trivial, trivial, trivial, trivial, trivial, trivial, trivial, trivial, trivial, trivial, trivial, trivial, trivial, trivial, trivial, trivial, trivial, trivial, trivial, trivial, trivial, trivial, trivial, trivial, trivial, trivial, trivial, trivial, trivial, trivial, trivial, trivial, trivial, trivial, trivial, trivial, trivial, trivial, trivial, trivial, trivial, trivial, trivial, trivial⟩) ⟨?s0, ?s1, ?s2, ?s3, ?s4, ?s5, ?s6, ?s7, ?s8, ?s9, ?s10, ?s11, ?s12, ?s13, ?s14, ?s15, ?s16, ?s17, ?s18, ?s19, ?s20, ?s21, ?s22, ?s23, ?s24, ?s25, ?s26, ?s27, ?s28, ?s29, ?s30, ?s31, ?s32, ?s33, ?s34, ?s35, ?s36, ?s37, ?s38, ?s39, ?s40, ?s41, ?s42, ?s43, ?s44, ?s45, ?s46, ?s47, ?s48, ?s49, trivial⟩ ?hQ
              case s0 =>
                intro W hB K hK
                simp only [tellK, Act.put, List.setIfInBounds_toArray, List.set_cons_zero, List.set_cons_succ] at hK ⊢
                refine tell_do rfl ?_
                obtain ⟨c0, c1, c2, c3, c4, c5⟩ := cells6 (HP.below hB)
                go_simp
                exact hK _ (Below.refl _ _)
              case s1 =>
                intro W hB K hK
                simp only [tellK, Act.put, List.setIfInBounds_toArray, List.set_cons_zero, List.set_cons_succ] at hK ⊢
                refine tell_do rfl ?_
                obtain ⟨c0, c1, c2, c3, c4, c5⟩ := cells6 (HP.below hB)
                go_simp
                exact hK _ (Below.refl _ _)
              case s2 =>
                intro W hB K hK
                simp only [tellK, Act.put, List.setIfInBounds_toArray, List.set_cons_zero, List.set_cons_succ] at hK ⊢
                refine tell_do rfl ?_
                obtain ⟨c0, c1, c2, c3, c4, c5⟩ := cells6 (HP.below hB)
                go_simp
                exact hK _ (Below.refl _ _)
              case s3 =>
                intro W hB K hK
                simp only [tellK, Act.put, List.setIfInBounds_toArray, List.set_cons_zero, List.set_cons_succ] at hK ⊢
                refine tell_not rfl ?_
                exact hK _ (Below.refl _ _)
              case s4 =>
                intro W hB K hK
                simp only [tellK, Act.put, List.setIfInBounds_toArray, List.set_cons_zero, List.set_cons_succ] at hK ⊢
                refine tell_not rfl ?_
                exact hK _ (Below.refl _ _)
              case s5 =>
                intro W hB K hK
                simp only [tellK, Act.put, List.setIfInBounds_toArray, List.set_cons_zero, List.set_cons_succ] at hK ⊢
                refine tell_not rfl ?_
                exact hK _ (Below.refl _ _)
              case s6 =>
                intro W hB K hK
                simp only [tellK, Act.put, List.setIfInBounds_toArray, List.set_cons_zero, List.set_cons_succ] at hK ⊢
                refine tell_do rfl ?_
                obtain ⟨c0, c1, c2, c3, c4, c5⟩ := cells6 (HP.below hB)
                go_simp
                exact hK _ (Below.refl _ _)
              case s7 =>
                intro W hB K hK
                simp only [tellK, Act.put, List.setIfInBounds_toArray, List.set_cons_zero, List.set_cons_succ] at hK ⊢
                refine tell_do rfl ?_
                obtain ⟨c0, c1, c2, c3, c4, c5⟩ := cells6 (HP.below hB)
                go_simp
                exact hK _ (Below.refl _ _)
              case s8 =>
                intro W hB K hK
                simp only [tellK, Act.put, List.setIfInBounds_toArray, List.set_cons_zero, List.set_cons_succ] at hK ⊢
                refine tell_do rfl ?_
                obtain ⟨c0, c1, c2, c3, c4, c5⟩ := cells6 (HP.below hB)
                go_simp
                exact hK _ (Below.refl _ _)
              case s9 =>
                intro W hB K hK
                simp only [tellK, Act.put, List.setIfInBounds_toArray, List.set_cons_zero, List.set_cons_succ] at hK ⊢
                refine tell_do rfl ?_
                obtain ⟨c0, c1, c2, c3, c4, c5⟩ := cells6 (HP.below hB)
                go_simp
                exact hK _ (Below.refl _ _)
              case s10 =>
                intro W hB K hK
                simp only [tellK, Act.put, List.setIfInBounds_toArray, List.set_cons_zero, List.set_cons_succ] at hK ⊢
                refine tell_do rfl ?_
                obtain ⟨c0, c1, c2, c3, c4, c5⟩ := cells6 (HP.below hB)
                go_simp
                exact hK _ (Below.refl _ _)
              case s11 =>
                intro W hB K hK
                simp only [tellK, Act.put, List.setIfInBounds_toArray, List.set_cons_zero, List.set_cons_succ] at hK ⊢
                refine tell_not rfl ?_
                exact hK _ (Below.refl _ _)
              case s12 =>
                intro W hB K hK
                simp only [tellK, Act.put, List.setIfInBounds_toArray, List.set_cons_zero, List.set_cons_succ] at hK ⊢
                refine tell_not rfl ?_
                exact hK _ (Below.refl _ _)
              case s13 =>
                intro W hB K hK
                simp only [tellK, Act.put, List.setIfInBounds_toArray, List.set_cons_zero, List.set_cons_succ] at hK ⊢
                refine tell_not rfl ?_
                exact hK _ (Below.refl _ _)
              case s14 =>
                intro W hB K hK
                simp only [tellK, Act.put, List.setIfInBounds_toArray, List.set_cons_zero, List.set_cons_succ] at hK ⊢
                refine tell_not rfl ?_
                exact hK _ (Below.refl _ _)
              case s15 =>
                intro W hB K hK
                simp only [tellK, Act.put, List.setIfInBounds_toArray, List.set_cons_zero, List.set_cons_succ] at hK ⊢
                refine tell_not rfl ?_
                exact hK _ (Below.refl _ _)
              case s16 =>
                intro W hB K hK
                simp only [tellK, Act.put, List.setIfInBounds_toArray, List.set_cons_zero, List.set_cons_succ] at hK ⊢
                refine tell_not rfl ?_
                exact hK _ (Below.refl _ _)
              case s17 =>
                intro W hB K hK
                simp only [tellK, Act.put, List.setIfInBounds_toArray, List.set_cons_zero, List.set_cons_succ] at hK ⊢
                refine tell_do rfl ?_
                obtain ⟨c0, c1, c2, c3, c4, c5⟩ := cells6 (HP.below hB)
                go_simp
                exact hK _ (Below.refl _ _)
              case s18 =>
                intro W hB K hK
                simp only [tellK, Act.put, List.setIfInBounds_toArray, List.set_cons_zero, List.set_cons_succ] at hK ⊢
                refine tell_do rfl ?_
                obtain ⟨c0, c1, c2, c3, c4, c5⟩ := cells6 (HP.below hB)
                go_simp
                exact hK _ (Below.refl _ _)
              case s19 =>
                intro W hB K hK
                simp only [tellK, Act.put, List.setIfInBounds_toArray, List.set_cons_zero, List.set_cons_succ] at hK ⊢
                refine tell_not rfl ?_
                exact hK _ (Below.refl _ _)
              case s20 =>
                intro W hB K hK
                simp only [tellK, Act.put, List.setIfInBounds_toArray, List.set_cons_zero, List.set_cons_succ] at hK ⊢
                refine tell_not rfl ?_
                exact hK _ (Below.refl _ _)
              case s21 =>
                intro W hB K hK
                simp only [tellK, Act.put, List.setIfInBounds_toArray, List.set_cons_zero, List.set_cons_succ] at hK ⊢
                refine tell_not rfl ?_
                exact hK _ (Below.refl _ _)
              case s22 =>
                intro W hB K hK
                simp only [tellK, Act.put, List.setIfInBounds_toArray, List.set_cons_zero, List.set_cons_succ] at hK ⊢
                refine tell_not rfl ?_
                exact hK _ (Below.refl _ _)
              case s23 =>
                intro W hB K hK
                simp only [tellK, Act.put, List.setIfInBounds_toArray, List.set_cons_zero, List.set_cons_succ] at hK ⊢
                refine tell_not rfl ?_
                exact hK _ (Below.refl _ _)
              case s24 =>
                intro W hB K hK
                simp only [tellK, Act.put, List.setIfInBounds_toArray, List.set_cons_zero, List.set_cons_succ] at hK ⊢
                refine tell_not rfl ?_
                exact hK _ (Below.refl _ _)
              case s25 =>
                intro W hB K hK
                simp only [tellK, Act.put, List.setIfInBounds_toArray, List.set_cons_zero, List.set_cons_succ] at hK ⊢
                refine tell_not rfl ?_
                exact hK _ (Below.refl _ _)
              case s26 =>
                intro W hB K hK
                simp only [tellK, Act.put, List.setIfInBounds_toArray, List.set_cons_zero, List.set_cons_succ] at hK ⊢
                refine tell_not rfl ?_
                exact hK _ (Below.refl _ _)
              case s27 =>
                intro W hB K hK
                simp only [tellK, Act.put, List.setIfInBounds_toArray, List.set_cons_zero, List.set_cons_succ] at hK ⊢
                refine tell_do rfl ?_
                obtain ⟨c0, c1, c2, c3, c4, c5⟩ := cells6 (HP.below hB)
                go_simp
                exact hK _ (Below.refl _ _)
              case s28 =>
                intro W hB K hK
                simp only [tellK, Act.put, List.setIfInBounds_toArray, List.set_cons_zero, List.set_cons_succ] at hK ⊢
                refine tell_do rfl ?_
                obtain ⟨c0, c1, c2, c3, c4, c5⟩ := cells6 (HP.below hB)
                go_simp
                exact hK _ (Below.refl _ _)
              case s29 =>
                intro W hB K hK
                simp only [tellK, Act.put, List.setIfInBounds_toArray, List.set_cons_zero, List.set_cons_succ] at hK ⊢
                refine tell_do rfl ?_
                obtain ⟨c0, c1, c2, c3, c4, c5⟩ := cells6 (HP.below hB)
                go_simp
                exact hK _ (Below.refl _ _)
              case s30 =>
                intro W hB K hK
                simp only [tellK, Act.put, List.setIfInBounds_toArray, List.set_cons_zero, List.set_cons_succ] at hK ⊢
                refine tell_do rfl ?_
                obtain ⟨c0, c1, c2, c3, c4, c5⟩ := cells6 (HP.below hB)
                go_simp
                exact hK _ (Below.refl _ _)
              case s31 =>
                intro W hB K hK
                simp only [tellK, Act.put, List.setIfInBounds_toArray, List.set_cons_zero, List.set_cons_succ] at hK ⊢
                refine tell_do rfl ?_
                obtain ⟨c0, c1, c2, c3, c4, c5⟩ := cells6 (HP.below hB)
                go_simp
                exact hK _ (Below.refl _ _)
              case s32 =>
                intro W hB K hK
                simp only [tellK, Act.put, List.setIfInBounds_toArray, List.set_cons_zero, List.set_cons_succ] at hK ⊢
                refine tell_do rfl ?_
                obtain ⟨c0, c1, c2, c3, c4, c5⟩ := cells6 (HP.below hB)
                go_simp
                exact hK _ (Below.refl _ _)
              case s33 =>
                intro W hB K hK
                simp only [tellK, Act.put, List.setIfInBounds_toArray, List.set_cons_zero, List.set_cons_succ] at hK ⊢
                refine tell_not rfl ?_
                exact hK _ (Below.refl _ _)
              case s34 =>
                intro W hB K hK
                simp only [tellK, Act.put, List.setIfInBounds_toArray, List.set_cons_zero, List.set_cons_succ] at hK ⊢
                refine tell_not rfl ?_
                exact hK _ (Below.refl _ _)
              case s35 =>
                intro W hB K hK
                simp only [tellK, Act.put, List.setIfInBounds_toArray, List.set_cons_zero, List.set_cons_succ] at hK ⊢
                refine tell_not rfl ?_
                exact hK _ (Below.refl _ _)
              case s36 =>
                intro W hB K hK
                simp only [tellK, Act.put, List.setIfInBounds_toArray, List.set_cons_zero, List.set_cons_succ] at hK ⊢
                refine tell_not rfl ?_
                exact hK _ (Below.refl _ _)
              case s37 =>
                intro W hB K hK
                simp only [tellK, Act.put, List.setIfInBounds_toArray, List.set_cons_zero, List.set_cons_succ] at hK ⊢
                refine tell_not rfl ?_
                exact hK _ (Below.refl _ _)
              case s38 =>
                intro W hB K hK
                simp only [tellK, Act.put, List.setIfInBounds_toArray, List.set_cons_zero, List.set_cons_succ] at hK ⊢
                refine tell_not rfl ?_
                exact hK _ (Below.refl _ _)
              case s39 =>
                intro W hB K hK
                simp only [tellK, Act.put, List.setIfInBounds_toArray, List.set_cons_zero, List.set_cons_succ] at hK ⊢
                refine tell_not rfl ?_
                exact hK _ (Below.refl _ _)
              case s40 =>
                intro W hB K hK
                simp only [tellK, Act.put, List.setIfInBounds_toArray, List.set_cons_zero, List.set_cons_succ] at hK ⊢
                refine tell_not rfl ?_
                exact hK _ (Below.refl _ _)
              case s41 =>
                intro W hB K hK
                simp only [tellK, Act.put, List.setIfInBounds_toArray, List.set_cons_zero, List.set_cons_succ] at hK ⊢
                refine tell_not rfl ?_
                exact hK _ (Below.refl _ _)
              case s42 =>
                intro W hB K hK
                simp only [tellK, Act.put, List.setIfInBounds_toArray, List.set_cons_zero, List.set_cons_succ] at hK ⊢
                refine tell_not rfl ?_
                exact hK _ (Below.refl _ _)
              case s43 =>
                intro W hB K hK
                simp only [tellK, Act.put, List.setIfInBounds_toArray, List.set_cons_zero, List.set_cons_succ] at hK ⊢
                refine tell_not rfl ?_
                exact hK _ (Below.refl _ _)
              case s44 =>
                intro W hB K hK
                simp only [tellK, Act.put, List.setIfInBounds_toArray, List.set_cons_zero, List.set_cons_succ] at hK ⊢
                refine tell_do rfl ?_
                obtain ⟨c0, c1, c2, c3, c4, c5⟩ := cells6 (HP.below hB)
                go_simp
                exact hK _ (Below.refl _ _)
              case s45 =>
                intro W hB K hK
                simp only [tellK, Act.put, List.setIfInBounds_toArray, List.set_cons_zero, List.set_cons_succ] at hK ⊢
                refine tell_do rfl ?_
                obtain ⟨c0, c1, c2, c3, c4, c5⟩ := cells6 (HP.below hB)
                go_simp
                exact hK _ (Below.refl _ _)
              case s46 =>
                intro W hB K hK
                simp only [tellK, Act.put, List.setIfInBounds_toArray, List.set_cons_zero, List.set_cons_succ] at hK ⊢
                refine tell_do rfl ?_
                obtain ⟨c0, c1, c2, c3, c4, c5⟩ := cells6 (HP.below hB)
                go_simp
                exact hK _ (Below.refl _ _)
              case s47 =>
                intro W hB K hK
                simp only [tellK, Act.put, List.setIfInBounds_toArray, List.set_cons_zero, List.set_cons_succ] at hK ⊢
                refine tell_do rfl ?_
                obtain ⟨c0, c1, c2, c3, c4, c5⟩ := cells6 (HP.below hB)
                go_simp
                go_at_call 40; refine (alive37_c _).mono ?_; rintro e W9 ⟨rfl, g9⟩; exact hK _ g9
              case s48 =>
                intro W hB K hK
                simp only [tellK, Act.put, List.setIfInBounds_toArray, List.set_cons_zero, List.set_cons_succ] at hK ⊢
                refine tell_do rfl ?_
                obtain ⟨c0, c1, c2, c3, c4, c5⟩ := cells6 (HP.below hB)
                go_simp
                exact hK _ (Below.refl _ _)
              case s49 =>
                intro W hB K hK
                simp only [tellK, Act.put, List.setIfInBounds_toArray, List.set_cons_zero, List.set_cons_succ] at hK ⊢
                refine tell_do rfl ?_
                obtain ⟨c0, c1, c2, c3, c4, c5⟩ := cells6 (HP.below hB)
                go_simp
                exact hK _ (Below.refl _ _)
              case hQ =>
                intro W hB
                simp only [tellGo, sayAt, List.getD_cons_zero, List.getD_cons_succ, Act.put, List.setIfInBounds_toArray, List.set_cons_zero, List.set_cons_succ]
                have hBo := bt_ hBo hB
                clear ra rb hu hs hB
                go_wp2
                go_ret
                exact ⟨rfl, hBo⟩
            | true =>
              have hf2 := Lib.hid (help_free h htb hsT)
              obtain ⟨t3, t4⟩ := ch_hyps h hsT htb
              clear h
              clear hdb htb
              refine wp_region_tell [.v (.bool false), .v (.bool true), .v (.bool true), .v (undef), .v (undef), .v (undef), .v (.bool true), .v (.bool true), .v (.bool true), .v (.bool false), .v (.bool false), .v (zb), .v (.int .i64 tg), .p (isLit wB tg), .v (.slice (some ad) s.length d), .p (isI (tg :: s)), .v (.bool true), .v (.bool true), .v (.bool true), .v (undef), .v (undef), .v (undef), .v (undef), .v (undef), .v (undef), .v (undef), .v (undef), .v (.bool true), .v (.bool true), .v (.bool true), .v (.bool true), .v (.bool false), .v (.bool false), .v (zb), .v (.int .i64 tg), .p (isI [tg]), .p (isI (helpsL p l tg)), .v (.int .i64 ((helpsL p l tg).length : Nat)), .v (.pointer (some ⟨w.heap.size, 1, none⟩)), .v (.int .i64 p.T), .v (.pointer (some ⟨w.heap.size, 2, none⟩)), .v (.int .i64 p.L), .v (.int .i64 (p.T + p.L)), .v (.bool true), .v (.bool true), .v (.bool true), .v (.bool true), .v (.bool true), .v (.bool true), .v (.bool true)] [([], none), ([(0, some 47)], none), ([(1, some 48)], none), ([(2, some 49)], some (some 49, false)), ([(2, some 49)], some (some 49, false)), ([(2, some 49), (3, some 50), (4, some 51)], some (some 49, false)), ([(2, some 49), (5, some 52)], none), ([(6, some 53)], none), ([(7, some 54)], some (some 54, true)), ([(7, some 54), (8, some 55)], some (some 54, true)), ([(7, some 54), (9, some 56)], some (some 54, true)), ([(10, some 57)], some (some 57, false)), ([(10, some 57)], some (some 57, false)), ([(10, some 57), (12, some 59)], some (some 57, false)), ([(10, some 57)], some (some 57, false)), ([(10, some 57), (13, some 60), (14, some 61)], some (some 57, false)), ([(10, some 57), (11, some 58), (15, some 62)], some (some 57, false)), ([(7, some 54), (10, some 57), (16, some 63)], some (some 54, true)), ([(7, some 54), (17, some 64)], some (some 54, true)), ([(18, some 65)], some (some 65, false)), ([(18, some 65), (19, some 66)], some (some 65, false)), ([(18, some 65)], some (some 65, false)), ([(18, some 65), (21, some 68)], some (some 65, false)), ([(18, some 65)], some (some 65, false)), ([(18, some 65), (23, some 70)], some (some 65, false)), ([(18, some 65), (22, some 69), (24, some 71)], some (some 65, false)), ([(18, some 65), (20, some 67), (25, some 72)], some (some 65, false)), ([(7, some 54), (18, some 65), (26, some 73)], some (some 54, true)), ([(7, some 54), (27, some 74)], none), ([(28, some 75)], none), ([(29, some 76)], some (some 76, true)), ([(29, some 76), (30, some 77)], some (some 76, true)), ([(29, some 76), (31, some 78)], some (some 76, true)), ([(32, some 79)], some (some 79, false)), ([(32, some 79)], some (some 79, false)), ([(32, some 79), (34, some 81)], some (some 79, false)), ([(32, some 79), (33, some 80), (35, some 82)], some (some 79, false)), ([(32, some 79), (36, some 83)], some (some 79, false)), ([(32, some 79)], some (some 79, false)), ([(32, some 79), (38, some 85)], some (some 79, false)), ([(32, some 79)], some (some 79, false)), ([(32, some 79), (40, some 87)], some (some 79, false)), ([(32, some 79), (39, some 86), (41, some 88)], some (some 79, false)), ([(32, some 79), (37, some 84), (42, some 89)], some (some 79, false)), ([(29, some 76), (32, some 79), (43, some 90)], some (some 76, true)), ([(29, some 76), (44, some 91)], none), ([(45, some 92)], none), ([(46, some 93)], some (some 93, true)), ([(46, some 93), (47, some 94)], none), ([(48, some 95)], none)] [(0, some 47), (1, some 48), (2, some 49), (3, some 50), (4, some 51), (5, some 52), (6, some 53), (7, some 54), (8, some 55), (9, some 56), (10, some 57), (11, some 58), (12, some 59), (13, some 60), (14, some 61), (15, some 62), (16, some 63), (17, some 64), (18, some 65), (19, some 66), (20, some 67), (21, some 68), (22, some 69), (23, some 70), (24, some 71), (25, some 72), (26, some 73), (27, some 74), (28, some 75), (29, some 76), (30, some 77), (31, some 78), (32, some 79), (33, some 80), (34, some 81), (35, some 82), (36, some 83), (37, some 84), (38, some 85), (39, some 86), (40, some 87), (41, some 88), (42, some 89), (43, some 90), (44, some 91), (45, some 92), (46, some 93), (47, some 94), (48, some 95), (49, some 6)] (by kernel_rfl) (by kernel_rfl) (by kernel_rfl) (by kernel_rfl) (by exact ⟨trivial, trivial, trivial, trivial, trivial, trivial, trivial, trivial, trivial, trivial, trivial, trivial, trivial, last_Lit _ _, trivial, last_I _, trivial, trivial, trivial, trivial, trivial, trivial, trivial, trivial, trivial, trivial, trivial, trivial, trivial, trivial, trivial, trivial, trivial, trivial, trivial, last_I _, last_I _, trivial, trivial, trivial, trivial, trivial, trivial, trivial, trivial, trivial, trivial, trivial, trivial, trivial, trivial⟩) ⟨?s0, ?s1, ?s2, ?s3, ?s4, ?s5, ?s6, ?s7, ?s8, ?s9, ?s10, ?s11, ?s12, ?s13, ?s14, ?s15, ?s16, ?s17, ?s18, ?s19, ?s20, ?s21, ?s22, ?s23, ?s24, ?s25, ?s26, ?s27, ?s28, ?s29, ?s30, ?s31, ?s32, ?s33, ?s34, ?s35, ?s36, ?s37, ?s38, ?s39, ?s40, ?s41, ?s42, ?s43, ?s44, ?s45, ?s46, ?s47, ?s48, ?s49, trivial⟩ ?hQ
              case s0 =>
                intro W hB K hK
                simp only [tellK, Act.put, List.setIfInBounds_toArray, List.set_cons_zero, List.set_cons_succ] at hK ⊢
                refine tell_do rfl ?_
                obtain ⟨c0, c1, c2, c3, c4, c5⟩ := cells6 (HP.below hB)
                go_simp
                exact hK _ (Below.refl _ _)
              case s1 =>
                intro W hB K hK
                simp only [tellK, Act.put, List.setIfInBounds_toArray, List.set_cons_zero, List.set_cons_succ] at hK ⊢
                refine tell_do rfl ?_
                obtain ⟨c0, c1, c2, c3, c4, c5⟩ := cells6 (HP.below hB)
                go_simp
                exact hK _ (Below.refl _ _)
              case s2 =>
                intro W hB K hK
                simp only [tellK, Act.put, List.setIfInBounds_toArray, List.set_cons_zero, List.set_cons_succ] at hK ⊢
                refine tell_do rfl ?_
                obtain ⟨c0, c1, c2, c3, c4, c5⟩ := cells6 (HP.below hB)
                go_simp
                exact hK _ (Below.refl _ _)
              case s3 =>
                intro W hB K hK
                simp only [tellK, Act.put, List.setIfInBounds_toArray, List.set_cons_zero, List.set_cons_succ] at hK ⊢
                refine tell_not rfl ?_
                exact hK _ (Below.refl _ _)
              case s4 =>
                intro W hB K hK
                simp only [tellK, Act.put, List.setIfInBounds_toArray, List.set_cons_zero, List.set_cons_succ] at hK ⊢
                refine tell_not rfl ?_
                exact hK _ (Below.refl _ _)
              case s5 =>
                intro W hB K hK
                simp only [tellK, Act.put, List.setIfInBounds_toArray, List.set_cons_zero, List.set_cons_succ] at hK ⊢
                refine tell_not rfl ?_
                exact hK _ (Below.refl _ _)
              case s6 =>
                intro W hB K hK
                simp only [tellK, Act.put, List.setIfInBounds_toArray, List.set_cons_zero, List.set_cons_succ] at hK ⊢
                refine tell_do rfl ?_
                obtain ⟨c0, c1, c2, c3, c4, c5⟩ := cells6 (HP.below hB)
                go_simp
                exact hK _ (Below.refl _ _)
              case s7 =>
                intro W hB K hK
                simp only [tellK, Act.put, List.setIfInBounds_toArray, List.set_cons_zero, List.set_cons_succ] at hK ⊢
                refine tell_do rfl ?_
                obtain ⟨c0, c1, c2, c3, c4, c5⟩ := cells6 (HP.below hB)
                go_simp
                exact hK _ (Below.refl _ _)
              case s8 =>
                intro W hB K hK
                simp only [tellK, Act.put, List.setIfInBounds_toArray, List.set_cons_zero, List.set_cons_succ] at hK ⊢
                refine tell_do rfl ?_
                obtain ⟨c0, c1, c2, c3, c4, c5⟩ := cells6 (HP.below hB)
                go_simp
                exact hK _ (Below.refl _ _)
              case s9 =>
                intro W hB K hK
                simp only [tellK, Act.put, List.setIfInBounds_toArray, List.set_cons_zero, List.set_cons_succ] at hK ⊢
                refine tell_do rfl ?_
                obtain ⟨c0, c1, c2, c3, c4, c5⟩ := cells6 (HP.below hB)
                go_simp
                exact hK _ (Below.refl _ _)
              case s10 =>
                intro W hB K hK
                simp only [tellK, Act.put, List.setIfInBounds_toArray, List.set_cons_zero, List.set_cons_succ] at hK ⊢
                refine tell_do rfl ?_
                obtain ⟨c0, c1, c2, c3, c4, c5⟩ := cells6 (HP.below hB)
                go_simp
                exact hK _ (Below.refl _ _)
              case s11 =>
                intro W hB K hK
                simp only [tellK, Act.put, List.setIfInBounds_toArray, List.set_cons_zero, List.set_cons_succ] at hK ⊢
                refine tell_do rfl ?_
                obtain ⟨c0, c1, c2, c3, c4, c5⟩ := cells6 (HP.below hB)
                go_simp
                exact hK _ (Below.refl _ _)
              case s12 =>
                intro W hB K hK
                simp only [tellK, Act.put, List.setIfInBounds_toArray, List.set_cons_zero, List.set_cons_succ] at hK ⊢
                refine tell_do rfl ?_
                obtain ⟨c0, c1, c2, c3, c4, c5⟩ := cells6 (HP.below hB)
                go_simp
                exact hK _ (Below.refl _ _)
              case s13 =>
                intro W hB K hK
                simp only [tellK, Act.put, List.setIfInBounds_toArray, List.set_cons_zero, List.set_cons_succ] at hK ⊢
                refine tell_do rfl ?_
                obtain ⟨c0, c1, c2, c3, c4, c5⟩ := cells6 (HP.below hB)
                go_simp
                exact hK _ _ ⟨W.heap.size, rfl, lit_ownI [tg] #[.int .i64 tg] rfl 1 rfl (by decide) hB.size⟩ (alloc_b _ _)
              case s14 =>
                intro W hB K hK
                simp only [tellK, Act.put, List.setIfInBounds_toArray, List.set_cons_zero, List.set_cons_succ] at hK ⊢
                refine tell_do rfl ?_
                obtain ⟨c0, c1, c2, c3, c4, c5⟩ := cells6 (HP.below hB)
                go_simp
                exact hK _ (Below.refl _ _)
              case s15 =>
                intro W hB v13 h13 K hK
                simp only [tellK, Act.put, List.setIfInBounds_toArray, List.set_cons_zero, List.set_cons_succ] at hK ⊢
                refine tell_do rfl ?_
                obtain ⟨c0, c1, c2, c3, c4, c5⟩ := cells6 (HP.below hB)
                obtain ⟨g, rfl, ho⟩ := h13; refine wp_app_lit (w0 := wB) (.tmp 60) (.tmp 61) rfl rfl rfl ho hB (hs.out.below hB) hsl.out ?_; intro v1 W1 q1 q2; exact hK _ _ q1.rk q2
              case s16 =>
                intro W hB v15 h15 K hK
                replace h15 : Ri W v15 (tg :: s) := h15
                simp only [tellK, Act.put, List.setIfInBounds_toArray, List.set_cons_zero, List.set_cons_succ] at hK ⊢
                refine tell_do rfl ?_
                obtain ⟨c0, c1, c2, c3, c4, c5⟩ := cells6 (HP.below hB)
                go_simp
                go_at_call 43; refine (free_c _ _ (helpsL p l tg) (tg :: s) _ (rb.out.below hB) h15 hf2.out.1 hf2.out.2.1 hf2.out.2.2.1).mono ?_; rintro e W9 ⟨rfl, g9⟩; exact hK _ g9
              case s17 =>
                intro W hB K hK
                simp only [tellK, Act.put, List.setIfInBounds_toArray, List.set_cons_zero, List.set_cons_succ] at hK ⊢
                refine tell_do rfl ?_
                obtain ⟨c0, c1, c2, c3, c4, c5⟩ := cells6 (HP.below hB)
                go_simp
                exact hK _ (Below.refl _ _)
              case s18 =>
                intro W hB K hK
                simp only [tellK, Act.put, List.setIfInBounds_toArray, List.set_cons_zero, List.set_cons_succ] at hK ⊢
                refine tell_do rfl ?_
                obtain ⟨c0, c1, c2, c3, c4, c5⟩ := cells6 (HP.below hB)
                go_simp
                exact hK _ (Below.refl _ _)
              case s19 =>
                intro W hB K hK
                simp only [tellK, Act.put, List.setIfInBounds_toArray, List.set_cons_zero, List.set_cons_succ] at hK ⊢
                refine tell_not rfl ?_
                exact hK _ (Below.refl _ _)
              case s20 =>
                intro W hB K hK
                simp only [tellK, Act.put, List.setIfInBounds_toArray, List.set_cons_zero, List.set_cons_succ] at hK ⊢
                refine tell_not rfl ?_
                exact hK _ (Below.refl _ _)
              case s21 =>
                intro W hB K hK
                simp only [tellK, Act.put, List.setIfInBounds_toArray, List.set_cons_zero, List.set_cons_succ] at hK ⊢
                refine tell_not rfl ?_
                exact hK _ (Below.refl _ _)
              case s22 =>
                intro W hB K hK
                simp only [tellK, Act.put, List.setIfInBounds_toArray, List.set_cons_zero, List.set_cons_succ] at hK ⊢
                refine tell_not rfl ?_
                exact hK _ (Below.refl _ _)
              case s23 =>
                intro W hB K hK
                simp only [tellK, Act.put, List.setIfInBounds_toArray, List.set_cons_zero, List.set_cons_succ] at hK ⊢
                refine tell_not rfl ?_
                exact hK _ (Below.refl _ _)
              case s24 =>
                intro W hB K hK
                simp only [tellK, Act.put, List.setIfInBounds_toArray, List.set_cons_zero, List.set_cons_succ] at hK ⊢
                refine tell_not rfl ?_
                exact hK _ (Below.refl _ _)
              case s25 =>
                intro W hB K hK
                simp only [tellK, Act.put, List.setIfInBounds_toArray, List.set_cons_zero, List.set_cons_succ] at hK ⊢
                refine tell_not rfl ?_
                exact hK _ (Below.refl _ _)
              case s26 =>
                intro W hB K hK
                simp only [tellK, Act.put, List.setIfInBounds_toArray, List.set_cons_zero, List.set_cons_succ] at hK ⊢
                refine tell_not rfl ?_
                exact hK _ (Below.refl _ _)
              case s27 =>
                intro W hB K hK
                simp only [tellK, Act.put, List.setIfInBounds_toArray, List.set_cons_zero, List.set_cons_succ] at hK ⊢
                refine tell_do rfl ?_
                obtain ⟨c0, c1, c2, c3, c4, c5⟩ := cells6 (HP.below hB)
                go_simp
                exact hK _ (Below.refl _ _)
              case s28 =>
                intro W hB K hK
                simp only [tellK, Act.put, List.setIfInBounds_toArray, List.set_cons_zero, List.set_cons_succ] at hK ⊢
                refine tell_do rfl ?_
                obtain ⟨c0, c1, c2, c3, c4, c5⟩ := cells6 (HP.below hB)
                go_simp
                exact hK _ (Below.refl _ _)
              case s29 =>
                intro W hB K hK
                simp only [tellK, Act.put, List.setIfInBounds_toArray, List.set_cons_zero, List.set_cons_succ] at hK ⊢
                refine tell_do rfl ?_
                obtain ⟨c0, c1, c2, c3, c4, c5⟩ := cells6 (HP.below hB)
                go_simp
                exact hK _ (Below.refl _ _)
              case s30 =>
                intro W hB K hK
                simp only [tellK, Act.put, List.setIfInBounds_toArray, List.set_cons_zero, List.set_cons_succ] at hK ⊢
                refine tell_do rfl ?_
                obtain ⟨c0, c1, c2, c3, c4, c5⟩ := cells6 (HP.below hB)
                go_simp
                exact hK _ (Below.refl _ _)
              case s31 =>
                intro W hB K hK
                simp only [tellK, Act.put, List.setIfInBounds_toArray, List.set_cons_zero, List.set_cons_succ] at hK ⊢
                refine tell_do rfl ?_
                obtain ⟨c0, c1, c2, c3, c4, c5⟩ := cells6 (HP.below hB)
                go_simp
                exact hK _ (Below.refl _ _)
              case s32 =>
                intro W hB K hK
                simp only [tellK, Act.put, List.setIfInBounds_toArray, List.set_cons_zero, List.set_cons_succ] at hK ⊢
                refine tell_do rfl ?_
                obtain ⟨c0, c1, c2, c3, c4, c5⟩ := cells6 (HP.below hB)
                go_simp
                exact hK _ (Below.refl _ _)
              case s33 =>
                intro W hB K hK
                simp only [tellK, Act.put, List.setIfInBounds_toArray, List.set_cons_zero, List.set_cons_succ] at hK ⊢
                refine tell_do rfl ?_
                obtain ⟨c0, c1, c2, c3, c4, c5⟩ := cells6 (HP.below hB)
                go_simp
                exact hK _ (Below.refl _ _)
              case s34 =>
                intro W hB K hK
                simp only [tellK, Act.put, List.setIfInBounds_toArray, List.set_cons_zero, List.set_cons_succ] at hK ⊢
                refine tell_do rfl ?_
                obtain ⟨c0, c1, c2, c3, c4, c5⟩ := cells6 (HP.below hB)
                go_simp
                exact hK _ (Below.refl _ _)
              case s35 =>
                intro W hB K hK
                simp only [tellK, Act.put, List.setIfInBounds_toArray, List.set_cons_zero, List.set_cons_succ] at hK ⊢
                refine tell_do rfl ?_
                obtain ⟨c0, c1, c2, c3, c4, c5⟩ := cells6 (HP.below hB)
                go_simp
                exact hK _ _ (lit_i W [tg] #[.int .i64 tg] 3 1 1 rfl rfl (by decide) (by decide)) (alloc_b _ _)
              case s36 =>
                intro W hB v35 h35 K hK
                replace h35 : Ri W v35 [tg] := h35
                simp only [tellK, Act.put, List.setIfInBounds_toArray, List.set_cons_zero, List.set_cons_succ] at hK ⊢
                refine tell_do rfl ?_
                obtain ⟨c0, c1, c2, c3, c4, c5⟩ := cells6 (HP.below hB)
                go_simp
                go_at_call 44; refine (rest_c _ _ (helpsL p l tg) [tg] _ (rb.out.below hB) h35 hf2.out.1).mono ?_; rintro e W9 ⟨z, r, rfl, hz, g9, hr⟩; rw [hf2.out.2.2.2.1 r hr] at hz; exact hK _ _ hz.rk g9
              case s37 =>
                intro W hB v36 h36 K hK
                replace h36 : Ri W v36 (helpsL p l tg) := h36
                simp only [tellK, Act.put, List.setIfInBounds_toArray, List.set_cons_zero, List.set_cons_succ] at hK ⊢
                refine tell_do rfl ?_
                obtain ⟨c0, c1, c2, c3, c4, c5⟩ := cells6 (HP.below hB)
                obtain ⟨A9, c9, rfl⟩ := rk_form h36; go_simp; exact hK _ (Below.refl _ _)
              case s38 =>
                intro W hB K hK
                simp only [tellK, Act.put, List.setIfInBounds_toArray, List.set_cons_zero, List.set_cons_succ] at hK ⊢
                refine tell_do rfl ?_
                obtain ⟨c0, c1, c2, c3, c4, c5⟩ := cells6 (HP.below hB)
                go_simp
                exact hK _ (Below.refl _ _)
              case s39 =>
                intro W hB K hK
                simp only [tellK, Act.put, List.setIfInBounds_toArray, List.set_cons_zero, List.set_cons_succ] at hK ⊢
                refine tell_do rfl ?_
                obtain ⟨c0, c1, c2, c3, c4, c5⟩ := cells6 (HP.below hB)
                go_simp
                exact hK _ (Below.refl _ _)
              case s40 =>
                intro W hB K hK
                simp only [tellK, Act.put, List.setIfInBounds_toArray, List.set_cons_zero, List.set_cons_succ] at hK ⊢
                refine tell_do rfl ?_
                obtain ⟨c0, c1, c2, c3, c4, c5⟩ := cells6 (HP.below hB)
                go_simp
                exact hK _ (Below.refl _ _)
              case s41 =>
                intro W hB K hK
                simp only [tellK, Act.put, List.setIfInBounds_toArray, List.set_cons_zero, List.set_cons_succ] at hK ⊢
                refine tell_do rfl ?_
                obtain ⟨c0, c1, c2, c3, c4, c5⟩ := cells6 (HP.below hB)
                go_simp
                exact hK _ (Below.refl _ _)
              case s42 =>
                intro W hB K hK
                simp only [tellK, Act.put, List.setIfInBounds_toArray, List.set_cons_zero, List.set_cons_succ] at hK ⊢
                refine tell_do rfl ?_
                obtain ⟨c0, c1, c2, c3, c4, c5⟩ := cells6 (HP.below hB)
                go_simp
                exact hK _ (Below.refl _ _)
              case s43 =>
                intro W hB K hK
                simp only [tellK, Act.put, List.setIfInBounds_toArray, List.set_cons_zero, List.set_cons_succ] at hK ⊢
                refine tell_do rfl ?_
                obtain ⟨c0, c1, c2, c3, c4, c5⟩ := cells6 (HP.below hB)
                go_simp
                exact hK _ (Below.refl _ _)
              case s44 =>
                intro W hB K hK
                simp only [tellK, Act.put, List.setIfInBounds_toArray, List.set_cons_zero, List.set_cons_succ] at hK ⊢
                refine tell_do rfl ?_
                obtain ⟨c0, c1, c2, c3, c4, c5⟩ := cells6 (HP.below hB)
                go_simp
                exact hK _ (Below.refl _ _)
              case s45 =>
                intro W hB K hK
                simp only [tellK, Act.put, List.setIfInBounds_toArray, List.set_cons_zero, List.set_cons_succ] at hK ⊢
                refine tell_do rfl ?_
                obtain ⟨c0, c1, c2, c3, c4, c5⟩ := cells6 (HP.below hB)
                go_simp
                exact hK _ (Below.refl _ _)
              case s46 =>
                intro W hB K hK
                simp only [tellK, Act.put, List.setIfInBounds_toArray, List.set_cons_zero, List.set_cons_succ] at hK ⊢
                refine tell_do rfl ?_
                obtain ⟨c0, c1, c2, c3, c4, c5⟩ := cells6 (HP.below hB)
                go_simp
                exact hK _ (Below.refl _ _)
              case s47 =>
                intro W hB K hK
                simp only [tellK, Act.put, List.setIfInBounds_toArray, List.set_cons_zero, List.set_cons_succ] at hK ⊢
                refine tell_do rfl ?_
                obtain ⟨c0, c1, c2, c3, c4, c5⟩ := cells6 (HP.below hB)
                go_simp
                go_at_call 40; refine (alive37_c _).mono ?_; rintro e W9 ⟨rfl, g9⟩; exact hK _ g9
              case s48 =>
                intro W hB K hK
                simp only [tellK, Act.put, List.setIfInBounds_toArray, List.set_cons_zero, List.set_cons_succ] at hK ⊢
                refine tell_do rfl ?_
                obtain ⟨c0, c1, c2, c3, c4, c5⟩ := cells6 (HP.below hB)
                go_simp
                exact hK _ (Below.refl _ _)
              case s49 =>
                intro W hB K hK
                simp only [tellK, Act.put, List.setIfInBounds_toArray, List.set_cons_zero, List.set_cons_succ] at hK ⊢
                refine tell_do rfl ?_
                obtain ⟨c0, c1, c2, c3, c4, c5⟩ := cells6 (HP.below hB)
                go_simp
                exact hK _ (Below.refl _ _)
              case hQ =>
                intro W hB v13 h13 v15 h15 v35 h35 v36 h36
                replace h15 : Ri W v15 (tg :: s) := h15
                replace h35 : Ri W v35 [tg] := h35
                replace h36 : Ri W v36 (helpsL p l tg) := h36
                simp only [tellGo, sayAt, List.getD_cons_zero, List.getD_cons_succ, Act.put, List.setIfInBounds_toArray, List.set_cons_zero, List.set_cons_succ]
                have hBo := bt_ hBo hB
                clear ra rb hu hs hB
                go_wp2
                go_ret
                exact ⟨rfl, hBo⟩
          | true =>
            have hf1 := Lib.hid (deal_free h hdb hsT)
            cases htb : helpsB p l tg with
            | false =>
              clear h
              clear hdb htb
              refine wp_region_tell [.v (.bool true), .v (.bool false), .v (.bool false), .v (za), .v (.slice (some ad) s.length d), .v (.bool true), .v (.bool true), .v (.bool true), .v (.bool false), .v (.bool true), .v (.bool true), .v (undef), .v (undef), .v (undef), .v (undef), .v (undef), .v (undef), .v (.bool true), .v (.bool true), .v (undef), .v (undef), .v (undef), .v (undef), .v (undef), .v (undef), .v (undef), .v (undef), .v (.bool true), .v (.bool true), .v (.bool true), .v (.bool false), .v (.bool true), .v (.bool true), .v (undef), .v (undef), .v (undef), .v (undef), .v (undef), .v (undef), .v (undef), .v (undef), .v (undef), .v (undef), .v (undef), .v (.bool true), .v (.bool true), .v (.bool true), .v (.bool true), .v (.bool true), .v (.bool true)] [([], none), ([(0, some 47)], none), ([(1, some 48)], none), ([(2, some 49)], some (some 49, false)), ([(2, some 49)], some (some 49, false)), ([(2, some 49), (3, some 50), (4, some 51)], some (some 49, false)), ([(2, some 49), (5, some 52)], none), ([(6, some 53)], none), ([(7, some 54)], some (some 54, true)), ([(7, some 54), (8, some 55)], some (some 54, true)), ([(7, some 54), (9, some 56)], some (some 54, true)), ([(10, some 57)], some (some 57, false)), ([(10, some 57)], some (some 57, false)), ([(10, some 57), (12, some 59)], some (some 57, false)), ([(10, some 57)], some (some 57, false)), ([(10, some 57), (13, some 60), (14, some 61)], some (some 57, false)), ([(10, some 57), (11, some 58), (15, some 62)], some (some 57, false)), ([(7, some 54), (10, some 57), (16, some 63)], some (some 54, true)), ([(7, some 54), (17, some 64)], some (some 54, true)), ([(18, some 65)], some (some 65, false)), ([(18, some 65), (19, some 66)], some (some 65, false)), ([(18, some 65)], some (some 65, false)), ([(18, some 65), (21, some 68)], some (some 65, false)), ([(18, some 65)], some (some 65, false)), ([(18, some 65), (23, some 70)], some (some 65, false)), ([(18, some 65), (22, some 69), (24, some 71)], some (some 65, false)), ([(18, some 65), (20, some 67), (25, some 72)], some (some 65, false)), ([(7, some 54), (18, some 65), (26, some 73)], some (some 54, true)), ([(7, some 54), (27, some 74)], none), ([(28, some 75)], none), ([(29, some 76)], some (some 76, true)), ([(29, some 76), (30, some 77)], some (some 76, true)), ([(29, some 76), (31, some 78)], some (some 76, true)), ([(32, some 79)], some (some 79, false)), ([(32, some 79)], some (some 79, false)), ([(32, some 79), (34, some 81)], some (some 79, false)), ([(32, some 79), (33, some 80), (35, some 82)], some (some 79, false)), ([(32, some 79), (36, some 83)], some (some 79, false)), ([(32, some 79)], some (some 79, false)), ([(32, some 79), (38, some 85)], some (some 79, false)), ([(32, some 79)], some (some 79, false)), ([(32, some 79), (40, some 87)], some (some 79, false)), ([(32, some 79), (39, some 86), (41, some 88)], some (some 79, false)), ([(32, some 79), (37, some 84), (42, some 89)], some (some 79, false)), ([(29, some 76), (32, some 79), (43, some 90)], some (some 76, true)), ([(29, some 76), (44, some 91)], none), ([(45, some 92)], none), ([(46, some 93)], some (some 93, true)), ([(46, some 93), (47, some 94)], none), ([(48, some 95)], none)] [(0, some 47), (1, some 48), (2, some 49), (3, some 50), (4, some 51), (5, some 52), (6, some 53), (7, some 54), (8, some 55), (9, some 56), (10, some 57), (11, some 58), (12, some 59), (13, some 60), (14, some 61), (15, some 62), (16, some 63), (17, some 64), (18, some 65), (19, some 66), (20, some 67), (21, some 68), (22, some 69), (23, some 70), (24, some 71), (25, some 72), (26, some 73), (27, some 74), (28, some 75), (29, some 76), (30, some 77), (31, some 78), (32, some 79), (33, some 80), (34, some 81), (35, some 82), (36, some 83), (37, some 84), (38, some 85), (39, some 86), (40, some 87), (41, some 88), (42, some 89), (43, some 90), (44, some 91), (45, some 92), (46, some 93), (47, some 94), (48, some 95), (49, some 6)] (by kernel_rfl) (by kernel_rfl) (by kernel_rfl) (by kernel_rfl) (by exact ⟨trivial, trivial, trivial, trivial, trivial, trivial, trivial, trivial, trivial, trivial, trivial, trivial, trivial, trivial, trivial, trivial, trivial, trivial, trivial, trivial, trivial, trivial, trivial, trivial, trivial, trivial, trivial, trivial, trivial, trivial, trivial, trivial, trivial, trivial, trivial, trivial, trivial, trivial, trivial, trivial, trivial, trivial, trivial, trivial, trivial, trivial, trivial, trivial, trivial, trivial, trivial⟩) ⟨?s0, ?s1, ?s2, ?s3, ?s4, ?s5, ?s6, ?s7, ?s8, ?s9, ?s10, ?s11, ?s12, ?s13, ?s14, ?s15, ?s16, ?s17, ?s18, ?s19, ?s20, ?s21, ?s22, ?s23, ?s24, ?s25, ?s26, ?s27, ?s28, ?s29, ?s30, ?s31, ?s32, ?s33, ?s34, ?s35, ?s36, ?s37, ?s38, ?s39, ?s40, ?s41, ?s42, ?s43, ?s44, ?s45, ?s46, ?s47, ?s48, ?s49, trivial⟩ ?hQ
              case s0 =>
                intro W hB K hK
                simp only [tellK, Act.put, List.setIfInBounds_toArray, List.set_cons_zero, List.set_cons_succ] at hK ⊢
                refine tell_do rfl ?_
                obtain ⟨c0, c1, c2, c3, c4, c5⟩ := cells6 (HP.below hB)
                go_simp
                exact hK _ (Below.refl _ _)
              case s1 =>
                intro W hB K hK
                simp only [tellK, Act.put, List.setIfInBounds_toArray, List.set_cons_zero, List.set_cons_succ] at hK ⊢
                refine tell_do rfl ?_
                obtain ⟨c0, c1, c2, c3, c4, c5⟩ := cells6 (HP.below hB)
                go_simp
                exact hK _ (Below.refl _ _)
              case s2 =>
                intro W hB K hK
                simp only [tellK, Act.put, List.setIfInBounds_toArray, List.set_cons_zero, List.set_cons_succ] at hK ⊢
                refine tell_do rfl ?_
                obtain ⟨c0, c1, c2, c3, c4, c5⟩ := cells6 (HP.below hB)
                go_simp
                exact hK _ (Below.refl _ _)
              case s3 =>
                intro W hB K hK
                simp only [tellK, Act.put, List.setIfInBounds_toArray, List.set_cons_zero, List.set_cons_succ] at hK ⊢
                refine tell_do rfl ?_
                obtain ⟨c0, c1, c2, c3, c4, c5⟩ := cells6 (HP.below hB)
                go_simp
                exact hK _ (Below.refl _ _)
              case s4 =>
                intro W hB K hK
                simp only [tellK, Act.put, List.setIfInBounds_toArray, List.set_cons_zero, List.set_cons_succ] at hK ⊢
                refine tell_do rfl ?_
                obtain ⟨c0, c1, c2, c3, c4, c5⟩ := cells6 (HP.below hB)
                go_simp
                exact hK _ (Below.refl _ _)
              case s5 =>
                intro W hB K hK
                simp only [tellK, Act.put, List.setIfInBounds_toArray, List.set_cons_zero, List.set_cons_succ] at hK ⊢
                refine tell_do rfl ?_
                obtain ⟨c0, c1, c2, c3, c4, c5⟩ := cells6 (HP.below hB)
                go_simp
                go_at_call 43; refine (free_c _ _ (dealL p l) s _ (ra.out.below hB) (hs.out.below hB) hf1.out.1 hf1.out.2.1 hf1.out.2.2).mono ?_; rintro e W9 ⟨rfl, g9⟩; exact hK _ g9
              case s6 =>
                intro W hB K hK
                simp only [tellK, Act.put, List.setIfInBounds_toArray, List.set_cons_zero, List.set_cons_succ] at hK ⊢
                refine tell_do rfl ?_
                obtain ⟨c0, c1, c2, c3, c4, c5⟩ := cells6 (HP.below hB)
                go_simp
                exact hK _ (Below.refl _ _)
              case s7 =>
                intro W hB K hK
                simp only [tellK, Act.put, List.setIfInBounds_toArray, List.set_cons_zero, List.set_cons_succ] at hK ⊢
                refine tell_do rfl ?_
                obtain ⟨c0, c1, c2, c3, c4, c5⟩ := cells6 (HP.below hB)
                go_simp
                exact hK _ (Below.refl _ _)
              case s8 =>
                intro W hB K hK
                simp only [tellK, Act.put, List.setIfInBounds_toArray, List.set_cons_zero, List.set_cons_succ] at hK ⊢
                refine tell_do rfl ?_
                obtain ⟨c0, c1, c2, c3, c4, c5⟩ := cells6 (HP.below hB)
                go_simp
                exact hK _ (Below.refl _ _)
              case s9 =>
                intro W hB K hK
                simp only [tellK, Act.put, List.setIfInBounds_toArray, List.set_cons_zero, List.set_cons_succ] at hK ⊢
                refine tell_do rfl ?_
                obtain ⟨c0, c1, c2, c3, c4, c5⟩ := cells6 (HP.below hB)
                go_simp
                exact hK _ (Below.refl _ _)
              case s10 =>
                intro W hB K hK
                simp only [tellK, Act.put, List.setIfInBounds_toArray, List.set_cons_zero, List.set_cons_succ] at hK ⊢
                refine tell_do rfl ?_
                obtain ⟨c0, c1, c2, c3, c4, c5⟩ := cells6 (HP.below hB)
                go_simp
                exact hK _ (Below.refl _ _)
              case s11 =>
                intro W hB K hK
                simp only [tellK, Act.put, List.setIfInBounds_toArray, List.set_cons_zero, List.set_cons_succ] at hK ⊢
                refine tell_not rfl ?_
                exact hK _ (Below.refl _ _)
              case s12 =>
                intro W hB K hK
                simp only [tellK, Act.put, List.setIfInBounds_toArray, List.set_cons_zero, List.set_cons_succ] at hK ⊢
                refine tell_not rfl ?_
                exact hK _ (Below.refl _ _)
              case s13 =>
                intro W hB K hK
                simp only [tellK, Act.put, List.setIfInBounds_toArray, List.set_cons_zero, List.set_cons_succ] at hK ⊢
                refine tell_not rfl ?_
                exact hK _ (Below.refl _ _)
              case s14 =>
                intro W hB K hK
                simp only [tellK, Act.put, List.setIfInBounds_toArray, List.set_cons_zero, List.set_cons_succ] at hK ⊢
                refine tell_not rfl ?_
                exact hK _ (Below.refl _ _)
              case s15 =>
                intro W hB K hK
                simp only [tellK, Act.put, List.setIfInBounds_toArray, List.set_cons_zero, List.set_cons_succ] at hK ⊢
                refine tell_not rfl ?_
                exact hK _ (Below.refl _ _)
              case s16 =>
                intro W hB K hK
                simp only [tellK, Act.put, List.setIfInBounds_toArray, List.set_cons_zero, List.set_cons_succ] at hK ⊢
                refine tell_not rfl ?_
                exact hK _ (Below.refl _ _)
              case s17 =>
                intro W hB K hK
                simp only [tellK, Act.put, List.setIfInBounds_toArray, List.set_cons_zero, List.set_cons_succ] at hK ⊢
                refine tell_do rfl ?_
                obtain ⟨c0, c1, c2, c3, c4, c5⟩ := cells6 (HP.below hB)
                go_simp
                exact hK _ (Below.refl _ _)
              case s18 =>
                intro W hB K hK
                simp only [tellK, Act.put, List.setIfInBounds_toArray, List.set_cons_zero, List.set_cons_succ] at hK ⊢
                refine tell_do rfl ?_
                obtain ⟨c0, c1, c2, c3, c4, c5⟩ := cells6 (HP.below hB)
                go_simp
                exact hK _ (Below.refl _ _)
              case s19 =>
                intro W hB K hK
                simp only [tellK, Act.put, List.setIfInBounds_toArray, List.set_cons_zero, List.set_cons_succ] at hK ⊢
                refine tell_not rfl ?_
                exact hK _ (Below.refl _ _)
              case s20 =>
                intro W hB K hK
                simp only [tellK, Act.put, List.setIfInBounds_toArray, List.set_cons_zero, List.set_cons_succ] at hK ⊢
                refine tell_not rfl ?_
                exact hK _ (Below.refl _ _)
              case s21 =>
                intro W hB K hK
                simp only [tellK, Act.put, List.setIfInBounds_toArray, List.set_cons_zero, List.set_cons_succ] at hK ⊢
                refine tell_not rfl ?_
                exact hK _ (Below.refl _ _)
              case s22 =>
                intro W hB K hK
                simp only [tellK, Act.put, List.setIfInBounds_toArray, List.set_cons_zero, List.set_cons_succ] at hK ⊢
                refine tell_not rfl ?_
                exact hK _ (Below.refl _ _)
              case s23 =>
                intro W hB K hK
                simp only [tellK, Act.put, List.setIfInBounds_toArray, List.set_cons_zero, List.set_cons_succ] at hK ⊢
                refine tell_not rfl ?_
                exact hK _ (Below.refl _ _)
              case s24 =>
                intro W hB K hK
                simp only [tellK, Act.put, List.setIfInBounds_toArray, List.set_cons_zero, List.set_cons_succ] at hK ⊢
                refine tell_not rfl ?_
                exact hK _ (Below.refl _ _)
              case s25 =>
                intro W hB K hK
                simp only [tellK, Act.put, List.setIfInBounds_toArray, List.set_cons_zero, List.set_cons_succ] at hK ⊢
                refine tell_not rfl ?_
                exact hK _ (Below.refl _ _)
              case s26 =>
                intro W hB K hK
                simp only [tellK, Act.put, List.setIfInBounds_toArray, List.set_cons_zero, List.set_cons_succ] at hK ⊢
                refine tell_not rfl ?_
                exact hK _ (Below.refl _ _)
              case s27 =>
                intro W hB K hK
                simp only [tellK, Act.put, List.setIfInBounds_toArray, List.set_cons_zero, List.set_cons_succ] at hK ⊢
                refine tell_do rfl ?_
                obtain ⟨c0, c1, c2, c3, c4, c5⟩ := cells6 (HP.below hB)
                go_simp
                exact hK _ (Below.refl _ _)
              case s28 =>
                intro W hB K hK
                simp only [tellK, Act.put, List.setIfInBounds_toArray, List.set_cons_zero, List.set_cons_succ] at hK ⊢
                refine tell_do rfl ?_
                obtain ⟨c0, c1, c2, c3, c4, c5⟩ := cells6 (HP.below hB)
                go_simp
                exact hK _ (Below.refl _ _)
              case s29 =>
                intro W hB K hK
                simp only [tellK, Act.put, List.setIfInBounds_toArray, List.set_cons_zero, List.set_cons_succ] at hK ⊢
                refine tell_do rfl ?_
                obtain ⟨c0, c1, c2, c3, c4, c5⟩ := cells6 (HP.below hB)
                go_simp
                exact hK _ (Below.refl _ _)
              case s30 =>
                intro W hB K hK
                simp only [tellK, Act.put, List.setIfInBounds_toArray, List.set_cons_zero, List.set_cons_succ] at hK ⊢
                refine tell_do rfl ?_
                obtain ⟨c0, c1, c2, c3, c4, c5⟩ := cells6 (HP.below hB)
                go_simp
                exact hK _ (Below.refl _ _)
              case s31 =>
                intro W hB K hK
                simp only [tellK, Act.put, List.setIfInBounds_toArray, List.set_cons_zero, List.set_cons_succ] at hK ⊢
                refine tell_do rfl ?_
                obtain ⟨c0, c1, c2, c3, c4, c5⟩ := cells6 (HP.below hB)
                go_simp
                exact hK _ (Below.refl _ _)
              case s32 =>
                intro W hB K hK
                simp only [tellK, Act.put, List.setIfInBounds_toArray, List.set_cons_zero, List.set_cons_succ] at hK ⊢
                refine tell_do rfl ?_
                obtain ⟨c0, c1, c2, c3, c4, c5⟩ := cells6 (HP.below hB)
                go_simp
                exact hK _ (Below.refl _ _)
              case s33 =>
                intro W hB K hK
                simp only [tellK, Act.put, List.setIfInBounds_toArray, List.set_cons_zero, List.set_cons_succ] at hK ⊢
                refine tell_not rfl ?_
                exact hK _ (Below.refl _ _)
              case s34 =>
                intro W hB K hK
                simp only [tellK, Act.put, List.setIfInBounds_toArray, List.set_cons_zero, List.set_cons_succ] at hK ⊢
                refine tell_not rfl ?_
                exact hK _ (Below.refl _ _)
              case s35 =>
                intro W hB K hK
                simp only [tellK, Act.put, List.setIfInBounds_toArray, List.set_cons_zero, List.set_cons_succ] at hK ⊢
                refine tell_not rfl ?_
                exact hK _ (Below.refl _ _)
              case s36 =>
                intro W hB K hK
                simp only [tellK, Act.put, List.setIfInBounds_toArray, List.set_cons_zero, List.set_cons_succ] at hK ⊢
                refine tell_not rfl ?_
                exact hK _ (Below.refl _ _)
              case s37 =>
                intro W hB K hK
                simp only [tellK, Act.put, List.setIfInBounds_toArray, List.set_cons_zero, List.set_cons_succ] at hK ⊢
                refine tell_not rfl ?_
                exact hK _ (Below.refl _ _)
              case s38 =>
                intro W hB K hK
                simp only [tellK, Act.put, List.setIfInBounds_toArray, List.set_cons_zero, List.set_cons_succ] at hK ⊢
                refine tell_not rfl ?_
                exact hK _ (Below.refl _ _)
              case s39 =>
                intro W hB K hK
                simp only [tellK, Act.put, List.setIfInBounds_toArray, List.set_cons_zero, List.set_cons_succ] at hK ⊢
                refine tell_not rfl ?_
                exact hK _ (Below.refl _ _)
              case s40 =>
                intro W hB K hK
                simp only [tellK, Act.put, List.setIfInBounds_toArray, List.set_cons_zero, List.set_cons_succ] at hK ⊢
                refine tell_not rfl ?_
                exact hK _ (Below.refl _ _)
              case s41 =>
                intro W hB K hK
                simp only [tellK, Act.put, List.setIfInBounds_toArray, List.set_cons_zero, List.set_cons_succ] at hK ⊢
                refine tell_not rfl ?_
                exact hK _ (Below.refl _ _)
              case s42 =>
                intro W hB K hK
                simp only [tellK, Act.put, List.setIfInBounds_toArray, List.set_cons_zero, List.set_cons_succ] at hK ⊢
                refine tell_not rfl ?_
                exact hK _ (Below.refl _ _)
              case s43 =>
                intro W hB K hK
                simp only [tellK, Act.put, List.setIfInBounds_toArray, List.set_cons_zero, List.set_cons_succ] at hK ⊢
                refine tell_not rfl ?_
                exact hK _ (Below.refl _ _)
              case s44 =>
                intro W hB K hK
                simp only [tellK, Act.put, List.setIfInBounds_toArray, List.set_cons_zero, List.set_cons_succ] at hK ⊢
                refine tell_do rfl ?_
                obtain ⟨c0, c1, c2, c3, c4, c5⟩ := cells6 (HP.below hB)
                go_simp
                exact hK _ (Below.refl _ _)
              case s45 =>
                intro W hB K hK
                simp only [tellK, Act.put, List.setIfInBounds_toArray, List.set_cons_zero, List.set_cons_succ] at hK ⊢
                refine tell_do rfl ?_
                obtain ⟨c0, c1, c2, c3, c4, c5⟩ := cells6 (HP.below hB)
                go_simp
                exact hK _ (Below.refl _ _)
              case s46 =>
                intro W hB K hK
                simp only [tellK, Act.put, List.setIfInBounds_toArray, List.set_cons_zero, List.set_cons_succ] at hK ⊢
                refine tell_do rfl ?_
                obtain ⟨c0, c1, c2, c3, c4, c5⟩ := cells6 (HP.below hB)
                go_simp
                exact hK _ (Below.refl _ _)
              case s47 =>
                intro W hB K hK
                simp only [tellK, Act.put, List.setIfInBounds_toArray, List.set_cons_zero, List.set_cons_succ] at hK ⊢
                refine tell_do rfl ?_
                obtain ⟨c0, c1, c2, c3, c4, c5⟩ := cells6 (HP.below hB)
                go_simp
                go_at_call 40; refine (alive37_c _).mono ?_; rintro e W9 ⟨rfl, g9⟩; exact hK _ g9
              case s48 =>
                intro W hB K hK
                simp only [tellK, Act.put, List.setIfInBounds_toArray, List.set_cons_zero, List.set_cons_succ] at hK ⊢
                refine tell_do rfl ?_
                obtain ⟨c0, c1, c2, c3, c4, c5⟩ := cells6 (HP.below hB)
                go_simp
                exact hK _ (Below.refl _ _)
              case s49 =>
                intro W hB K hK
                simp only [tellK, Act.put, List.setIfInBounds_toArray, List.set_cons_zero, List.set_cons_succ] at hK ⊢
                refine tell_do rfl ?_
                obtain ⟨c0, c1, c2, c3, c4, c5⟩ := cells6 (HP.below hB)
                go_simp
                exact hK _ (Below.refl _ _)
              case hQ =>
                intro W hB
                simp only [tellGo, sayAt, List.getD_cons_zero, List.getD_cons_succ, Act.put, List.setIfInBounds_toArray, List.set_cons_zero, List.set_cons_succ]
                have hBo := bt_ hBo hB
                clear ra rb hu hs hB
                go_wp2
                go_ret
                exact ⟨rfl, hBo⟩
            | true =>
              have hf2 := Lib.hid (help_free h htb hsT)
              obtain ⟨t3, t4⟩ := ch_hyps h hsT htb
              clear h
              clear hdb htb
              refine wp_region_tell [.v (.bool true), .v (.bool false), .v (.bool false), .v (za), .v (.slice (some ad) s.length d), .v (.bool true), .v (.bool true), .v (.bool true), .v (.bool true), .v (.bool false), .v (.bool false), .v (zb), .v (.int .i64 tg), .p (isLit wB tg), .v (.slice (some ad) s.length d), .p (isI (tg :: s)), .v (.bool true), .v (.bool true), .v (.bool true), .v (undef), .v (undef), .v (undef), .v (undef), .v (undef), .v (undef), .v (undef), .v (undef), .v (.bool true), .v (.bool true), .v (.bool true), .v (.bool true), .v (.bool false), .v (.bool false), .v (zb), .v (.int .i64 tg), .p (isI [tg]), .p (isI (helpsL p l tg)), .v (.int .i64 ((helpsL p l tg).length : Nat)), .v (.pointer (some ⟨w.heap.size, 1, none⟩)), .v (.int .i64 p.T), .v (.pointer (some ⟨w.heap.size, 2, none⟩)), .v (.int .i64 p.L), .v (.int .i64 (p.T + p.L)), .v (.bool true), .v (.bool true), .v (.bool true), .v (.bool true), .v (.bool true), .v (.bool true), .v (.bool true)] [([], none), ([(0, some 47)], none), ([(1, some 48)], none), ([(2, some 49)], some (some 49, false)), ([(2, some 49)], some (some 49, false)), ([(2, some 49), (3, some 50), (4, some 51)], some (some 49, false)), ([(2, some 49), (5, some 52)], none), ([(6, some 53)], none), ([(7, some 54)], some (some 54, true)), ([(7, some 54), (8, some 55)], some (some 54, true)), ([(7, some 54), (9, some 56)], some (some 54, true)), ([(10, some 57)], some (some 57, false)), ([(10, some 57)], some (some 57, false)), ([(10, some 57), (12, some 59)], some (some 57, false)), ([(10, some 57)], some (some 57, false)), ([(10, some 57), (13, some 60), (14, some 61)], some (some 57, false)), ([(10, some 57), (11, some 58), (15, some 62)], some (some 57, false)), ([(7, some 54), (10, some 57), (16, some 63)], some (some 54, true)), ([(7, some 54), (17, some 64)], some (some 54, true)), ([(18, some 65)], some (some 65, false)), ([(18, some 65), (19, some 66)], some (some 65, false)), ([(18, some 65)], some (some 65, false)), ([(18, some 65), (21, some 68)], some (some 65, false)), ([(18, some 65)], some (some 65, false)), ([(18, some 65), (23, some 70)], some (some 65, false)), ([(18, some 65), (22, some 69), (24, some 71)], some (some 65, false)), ([(18, some 65), (20, some 67), (25, some 72)], some (some 65, false)), ([(7, some 54), (18, some 65), (26, some 73)], some (some 54, true)), ([(7, some 54), (27, some 74)], none), ([(28, some 75)], none), ([(29, some 76)], some (some 76, true)), ([(29, some 76), (30, some 77)], some (some 76, true)), ([(29, some 76), (31, some 78)], some (some 76, true)), ([(32, some 79)], some (some 79, false)), ([(32, some 79)], some (some 79, false)), ([(32, some 79), (34, some 81)], some (some 79, false)), ([(32, some 79), (33, some 80), (35, some 82)], some (some 79, false)), ([(32, some 79), (36, some 83)], some (some 79, false)), ([(32, some 79)], some (some 79, false)), ([(32, some 79), (38, some 85)], some (some 79, false)), ([(32, some 79)], some (some 79, false)), ([(32, some 79), (40, some 87)], some (some 79, false)), ([(32, some 79), (39, some 86), (41, some 88)], some (some 79, false)), ([(32, some 79), (37, some 84), (42, some 89)], some (some 79, false)), ([(29, some 76), (32, some 79), (43, some 90)], some (some 76, true)), ([(29, some 76), (44, some 91)], none), ([(45, some 92)], none), ([(46, some 93)], some (some 93, true)), ([(46, some 93), (47, some 94)], none), ([(48, some 95)], none)] [(0, some 47), (1, some 48), (2, some 49), (3, some 50), (4, some 51), (5, some 52), (6, some 53), (7, some 54), (8, some 55), (9, some 56), (10, some 57), (11, some 58), (12, some 59), (13, some 60), (14, some 61), (15, some 62), (16, some 63), (17, some 64), (18, some 65), (19, some 66), (20, some 67), (21, some 68), (22, some 69), (23, some 70), (24, some 71), (25, some 72), (26, some 73), (27, some 74), (28, some 75), (29, some 76), (30, some 77), (31, some 78), (32, some 79), (33, some 80), (34, some 81), (35, some 82), (36, some 83), (37, some 84), (38, some 85), (39, some 86), (40, some 87), (41, some 88), (42, some 89), (43, some 90), (44, some 91), (45, some 92), (46, some 93), (47, some 94), (48, some 95), (49, some 6)] (by kernel_rfl) (by kernel_rfl) (by kernel_rfl) (by kernel_rfl) (by exact ⟨trivial, trivial, trivial, trivial, trivial, trivial, trivial, trivial, trivial, trivial, trivial, trivial, trivial, last_Lit _ _, trivial, last_I _, trivial, trivial, trivial, trivial, trivial, trivial, trivial, trivial, trivial, trivial, trivial, trivial, trivial, trivial, trivial, trivial, trivial, trivial, trivial, last_I _, last_I _, trivial, trivial, trivial, trivial, trivial, trivial, trivial, trivial, trivial, trivial, trivial, trivial, trivial, trivial⟩) ⟨?s0, ?s1, ?s2, ?s3, ?s4, ?s5, ?s6, ?s7, ?s8, ?s9, ?s10, ?s11, ?s12, ?s13, ?s14, ?s15, ?s16, ?s17, ?s18, ?s19, ?s20, ?s21, ?s22, ?s23, ?s24, ?s25, ?s26, ?s27, ?s28, ?s29, ?s30, ?s31, ?s32, ?s33, ?s34, ?s35, ?s36, ?s37, ?s38, ?s39, ?s40, ?s41, ?s42, ?s43, ?s44, ?s45, ?s46, ?s47, ?s48, ?s49, trivial⟩ ?hQ
              case s0 =>
                intro W hB K hK
                simp only [tellK, Act.put, List.setIfInBounds_toArray, List.set_cons_zero, List.set_cons_succ] at hK ⊢
                refine tell_do rfl ?_
                obtain ⟨c0, c1, c2, c3, c4, c5⟩ := cells6 (HP.below hB)
                go_simp
                exact hK _ (Below.refl _ _)
              case s1 =>
                intro W hB K hK
                simp only [tellK, Act.put, List.setIfInBounds_toArray, List.set_cons_zero, List.set_cons_succ] at hK ⊢
                refine tell_do rfl ?_
                obtain ⟨c0, c1, c2, c3, c4, c5⟩ := cells6 (HP.below hB)
                go_simp
                exact hK _ (Below.refl _ _)
              case s2 =>
                intro W hB K hK
                simp only [tellK, Act.put, List.setIfInBounds_toArray, List.set_cons_zero, List.set_cons_succ] at hK ⊢
                refine tell_do rfl ?_
                obtain ⟨c0, c1, c2, c3, c4, c5⟩ := cells6 (HP.below hB)
                go_simp
                exact hK _ (Below.refl _ _)
              case s3 =>
                intro W hB K hK
                simp only [tellK, Act.put, List.setIfInBounds_toArray, List.set_cons_zero, List.set_cons_succ] at hK ⊢
                refine tell_do rfl ?_
                obtain ⟨c0, c1, c2, c3, c4, c5⟩ := cells6 (HP.below hB)
                go_simp
                exact hK _ (Below.refl _ _)
              case s4 =>
                intro W hB K hK
                simp only [tellK, Act.put, List.setIfInBounds_toArray, List.set_cons_zero, List.set_cons_succ] at hK ⊢
                refine tell_do rfl ?_
                obtain ⟨c0, c1, c2, c3, c4, c5⟩ := cells6 (HP.below hB)
                go_simp
                exact hK _ (Below.refl _ _)
              case s5 =>
                intro W hB K hK
                simp only [tellK, Act.put, List.setIfInBounds_toArray, List.set_cons_zero, List.set_cons_succ] at hK ⊢
                refine tell_do rfl ?_
                obtain ⟨c0, c1, c2, c3, c4, c5⟩ := cells6 (HP.below hB)
                go_simp
                go_at_call 43; refine (free_c _ _ (dealL p l) s _ (ra.out.below hB) (hs.out.below hB) hf1.out.1 hf1.out.2.1 hf1.out.2.2).mono ?_; rintro e W9 ⟨rfl, g9⟩; exact hK _ g9
              case s6 =>
                intro W hB K hK
                simp only [tellK, Act.put, List.setIfInBounds_toArray, List.set_cons_zero, List.set_cons_succ] at hK ⊢
                refine tell_do rfl ?_
                obtain ⟨c0, c1, c2, c3, c4, c5⟩ := cells6 (HP.below hB)
                go_simp
                exact hK _ (Below.refl _ _)
              case s7 =>
                intro W hB K hK
                simp only [tellK, Act.put, List.setIfInBounds_toArray, List.set_cons_zero, List.set_cons_succ] at hK ⊢
                refine tell_do rfl ?_
                obtain ⟨c0, c1, c2, c3, c4, c5⟩ := cells6 (HP.below hB)
                go_simp
                exact hK _ (Below.refl _ _)
              case s8 =>
                intro W hB K hK
                simp only [tellK, Act.put, List.setIfInBounds_toArray, List.set_cons_zero, List.set_cons_succ] at hK ⊢
                refine tell_do rfl ?_
                obtain ⟨c0, c1, c2, c3, c4, c5⟩ := cells6 (HP.below hB)
                go_simp
                exact hK _ (Below.refl _ _)
              case s9 =>
                intro W hB K hK
                simp only [tellK, Act.put, List.setIfInBounds_toArray, List.set_cons_zero, List.set_cons_succ] at hK ⊢
                refine tell_do rfl ?_
                obtain ⟨c0, c1, c2, c3, c4, c5⟩ := cells6 (HP.below hB)
                go_simp
                exact hK _ (Below.refl _ _)
              case s10 =>
                intro W hB K hK
                simp only [tellK, Act.put, List.setIfInBounds_toArray, List.set_cons_zero, List.set_cons_succ] at hK ⊢
                refine tell_do rfl ?_
                obtain ⟨c0, c1, c2, c3, c4, c5⟩ := cells6 (HP.below hB)
                go_simp
                exact hK _ (Below.refl _ _)
              case s11 =>
                intro W hB K hK
                simp only [tellK, Act.put, List.setIfInBounds_toArray, List.set_cons_zero, List.set_cons_succ] at hK ⊢
                refine tell_do rfl ?_
                obtain ⟨c0, c1, c2, c3, c4, c5⟩ := cells6 (HP.below hB)
                go_simp
                exact hK _ (Below.refl _ _)
              case s12 =>
                intro W hB K hK
                simp only [tellK, Act.put, List.setIfInBounds_toArray, List.set_cons_zero, List.set_cons_succ] at hK ⊢
                refine tell_do rfl ?_
                obtain ⟨c0, c1, c2, c3, c4, c5⟩ := cells6 (HP.below hB)
                go_simp
                exact hK _ (Below.refl _ _)
              case s13 =>
                intro W hB K hK
                simp only [tellK, Act.put, List.setIfInBounds_toArray, List.set_cons_zero, List.set_cons_succ] at hK ⊢
                refine tell_do rfl ?_
                obtain ⟨c0, c1, c2, c3, c4, c5⟩ := cells6 (HP.below hB)
                go_simp
                exact hK _ _ ⟨W.heap.size, rfl, lit_ownI [tg] #[.int .i64 tg] rfl 1 rfl (by decide) hB.size⟩ (alloc_b _ _)
              case s14 =>
                intro W hB K hK
                simp only [tellK, Act.put, List.setIfInBounds_toArray, List.set_cons_zero, List.set_cons_succ] at hK ⊢
                refine tell_do rfl ?_
                obtain ⟨c0, c1, c2, c3, c4, c5⟩ := cells6 (HP.below hB)
                go_simp
                exact hK _ (Below.refl _ _)
              case s15 =>
                intro W hB v13 h13 K hK
                simp only [tellK, Act.put, List.setIfInBounds_toArray, List.set_cons_zero, List.set_cons_succ] at hK ⊢
                refine tell_do rfl ?_
                obtain ⟨c0, c1, c2, c3, c4, c5⟩ := cells6 (HP.below hB)
                obtain ⟨g, rfl, ho⟩ := h13; refine wp_app_lit (w0 := wB) (.tmp 60) (.tmp 61) rfl rfl rfl ho hB (hs.out.below hB) hsl.out ?_; intro v1 W1 q1 q2; exact hK _ _ q1.rk q2
              case s16 =>
                intro W hB v15 h15 K hK
                replace h15 : Ri W v15 (tg :: s) := h15
                simp only [tellK, Act.put, List.setIfInBounds_toArray, List.set_cons_zero, List.set_cons_succ] at hK ⊢
                refine tell_do rfl ?_
                obtain ⟨c0, c1, c2, c3, c4, c5⟩ := cells6 (HP.below hB)
                go_simp
                go_at_call 43; refine (free_c _ _ (helpsL p l tg) (tg :: s) _ (rb.out.below hB) h15 hf2.out.1 hf2.out.2.1 hf2.out.2.2.1).mono ?_; rintro e W9 ⟨rfl, g9⟩; exact hK _ g9
              case s17 =>
                intro W hB K hK
                simp only [tellK, Act.put, List.setIfInBounds_toArray, List.set_cons_zero, List.set_cons_succ] at hK ⊢
                refine tell_do rfl ?_
                obtain ⟨c0, c1, c2, c3, c4, c5⟩ := cells6 (HP.below hB)
                go_simp
                exact hK _ (Below.refl _ _)
              case s18 =>
                intro W hB K hK
                simp only [tellK, Act.put, List.setIfInBounds_toArray, List.set_cons_zero, List.set_cons_succ] at hK ⊢
                refine tell_do rfl ?_
                obtain ⟨c0, c1, c2, c3, c4, c5⟩ := cells6 (HP.below hB)
                go_simp
                exact hK _ (Below.refl _ _)
              case s19 =>
                intro W hB K hK
                simp only [tellK, Act.put, List.setIfInBounds_toArray, List.set_cons_zero, List.set_cons_succ] at hK ⊢
                refine tell_not rfl ?_
                exact hK _ (Below.refl _ _)
              case s20 =>
                intro W hB K hK
                simp only [tellK, Act.put, List.setIfInBounds_toArray, List.set_cons_zero, List.set_cons_succ] at hK ⊢
                refine tell_not rfl ?_
                exact hK _ (Below.refl _ _)
              case s21 =>
                intro W hB K hK
                simp only [tellK, Act.put, List.setIfInBounds_toArray, List.set_cons_zero, List.set_cons_succ] at hK ⊢
                refine tell_not rfl ?_
                exact hK _ (Below.refl _ _)
              case s22 =>
                intro W hB K hK
                simp only [tellK, Act.put, List.setIfInBounds_toArray, List.set_cons_zero, List.set_cons_succ] at hK ⊢
                refine tell_not rfl ?_
                exact hK _ (Below.refl _ _)
              case s23 =>
                intro W hB K hK
                simp only [tellK, Act.put, List.setIfInBounds_toArray, List.set_cons_zero, List.set_cons_succ] at hK ⊢
                refine tell_not rfl ?_
                exact hK _ (Below.refl _ _)
              case s24 =>
                intro W hB K hK
                simp only [tellK, Act.put, List.setIfInBounds_toArray, List.set_cons_zero, List.set_cons_succ] at hK ⊢
                refine tell_not rfl ?_
                exact hK _ (Below.refl _ _)
              case s25 =>
                intro W hB K hK
                simp only [tellK, Act.put, List.setIfInBounds_toArray, List.set_cons_zero, List.set_cons_succ] at hK ⊢
                refine tell_not rfl ?_
                exact hK _ (Below.refl _ _)
              case s26 =>
                intro W hB K hK
                simp only [tellK, Act.put, List.setIfInBounds_toArray, List.set_cons_zero, List.set_cons_succ] at hK ⊢
                refine tell_not rfl ?_
                exact hK _ (Below.refl _ _)
              case s27 =>
                intro W hB K hK
                simp only [tellK, Act.put, List.setIfInBounds_toArray, List.set_cons_zero, List.set_cons_succ] at hK ⊢
                refine tell_do rfl ?_
                obtain ⟨c0, c1, c2, c3, c4, c5⟩ := cells6 (HP.below hB)
                go_simp
                exact hK _ (Below.refl _ _)
              case s28 =>
                intro W hB K hK
                simp only [tellK, Act.put, List.setIfInBounds_toArray, List.set_cons_zero, List.set_cons_succ] at hK ⊢
                refine tell_do rfl ?_
                obtain ⟨c0, c1, c2, c3, c4, c5⟩ := cells6 (HP.below hB)
                go_simp
                exact hK _ (Below.refl _ _)
              case s29 =>
                intro W hB K hK
                simp only [tellK, Act.put, List.setIfInBounds_toArray, List.set_cons_zero, List.set_cons_succ] at hK ⊢
                refine tell_do rfl ?_
                obtain ⟨c0, c1, c2, c3, c4, c5⟩ := cells6 (HP.below hB)
                go_simp
                exact hK _ (Below.refl _ _)
              case s30 =>
                intro W hB K hK
                simp only [tellK, Act.put, List.setIfInBounds_toArray, List.set_cons_zero, List.set_cons_succ] at hK ⊢
                refine tell_do rfl ?_
                obtain ⟨c0, c1, c2, c3, c4, c5⟩ := cells6 (HP.below hB)
                go_simp
                exact hK _ (Below.refl _ _)
              case s31 =>
                intro W hB K hK
                simp only [tellK, Act.put, List.setIfInBounds_toArray, List.set_cons_zero, List.set_cons_succ] at hK ⊢
                refine tell_do rfl ?_
                obtain ⟨c0, c1, c2, c3, c4, c5⟩ := cells6 (HP.below hB)
                go_simp
                exact hK _ (Below.refl _ _)
              case s32 =>
                intro W hB K hK
                simp only [tellK, Act.put, List.setIfInBounds_toArray, List.set_cons_zero, List.set_cons_succ] at hK ⊢
                refine tell_do rfl ?_
                obtain ⟨c0, c1, c2, c3, c4, c5⟩ := cells6 (HP.below hB)
                go_simp
                exact hK _ (Below.refl _ _)
              case s33 =>
                intro W hB K hK
                simp only [tellK, Act.put, List.setIfInBounds_toArray, List.set_cons_zero, List.set_cons_succ] at hK ⊢
                refine tell_do rfl ?_
                obtain ⟨c0, c1, c2, c3, c4, c5⟩ := cells6 (HP.below hB)
                go_simp
                exact hK _ (Below.refl _ _)
              case s34 =>
                intro W hB K hK
                simp only [tellK, Act.put, List.setIfInBounds_toArray, List.set_cons_zero, List.set_cons_succ] at hK ⊢
                refine tell_do rfl ?_
                obtain ⟨c0, c1, c2, c3, c4, c5⟩ := cells6 (HP.below hB)
                go_simp
                exact hK _ (Below.refl _ _)
              case s35 =>
                intro W hB K hK
                simp only [tellK, Act.put, List.setIfInBounds_toArray, List.set_cons_zero, List.set_cons_succ] at hK ⊢
                refine tell_do rfl ?_
                obtain ⟨c0, c1, c2, c3, c4, c5⟩ := cells6 (HP.below hB)
                go_simp
                exact hK _ _ (lit_i W [tg] #[.int .i64 tg] 3 1 1 rfl rfl (by decide) (by decide)) (alloc_b _ _)
              case s36 =>
                intro W hB v35 h35 K hK
                replace h35 : Ri W v35 [tg] := h35
                simp only [tellK, Act.put, List.setIfInBounds_toArray, List.set_cons_zero, List.set_cons_succ] at hK ⊢
                refine tell_do rfl ?_
                obtain ⟨c0, c1, c2, c3, c4, c5⟩ := cells6 (HP.below hB)
                go_simp
                go_at_call 44; refine (rest_c _ _ (helpsL p l tg) [tg] _ (rb.out.below hB) h35 hf2.out.1).mono ?_; rintro e W9 ⟨z, r, rfl, hz, g9, hr⟩; rw [hf2.out.2.2.2.1 r hr] at hz; exact hK _ _ hz.rk g9
              case s37 =>
                intro W hB v36 h36 K hK
                replace h36 : Ri W v36 (helpsL p l tg) := h36
                simp only [tellK, Act.put, List.setIfInBounds_toArray, List.set_cons_zero, List.set_cons_succ] at hK ⊢
                refine tell_do rfl ?_
                obtain ⟨c0, c1, c2, c3, c4, c5⟩ := cells6 (HP.below hB)
                obtain ⟨A9, c9, rfl⟩ := rk_form h36; go_simp; exact hK _ (Below.refl _ _)
              case s38 =>
                intro W hB K hK
                simp only [tellK, Act.put, List.setIfInBounds_toArray, List.set_cons_zero, List.set_cons_succ] at hK ⊢
                refine tell_do rfl ?_
                obtain ⟨c0, c1, c2, c3, c4, c5⟩ := cells6 (HP.below hB)
                go_simp
                exact hK _ (Below.refl _ _)
              case s39 =>
                intro W hB K hK
                simp only [tellK, Act.put, List.setIfInBounds_toArray, List.set_cons_zero, List.set_cons_succ] at hK ⊢
                refine tell_do rfl ?_
                obtain ⟨c0, c1, c2, c3, c4, c5⟩ := cells6 (HP.below hB)
                go_simp
                exact hK _ (Below.refl _ _)
              case s40 =>
                intro W hB K hK
                simp only [tellK, Act.put, List.setIfInBounds_toArray, List.set_cons_zero, List.set_cons_succ] at hK ⊢
                refine tell_do rfl ?_
                obtain ⟨c0, c1, c2, c3, c4, c5⟩ := cells6 (HP.below hB)
                go_simp
                exact hK _ (Below.refl _ _)
              case s41 =>
                intro W hB K hK
                simp only [tellK, Act.put, List.setIfInBounds_toArray, List.set_cons_zero, List.set_cons_succ] at hK ⊢
                refine tell_do rfl ?_
                obtain ⟨c0, c1, c2, c3, c4, c5⟩ := cells6 (HP.below hB)
                go_simp
                exact hK _ (Below.refl _ _)
              case s42 =>
                intro W hB K hK
                simp only [tellK, Act.put, List.setIfInBounds_toArray, List.set_cons_zero, List.set_cons_succ] at hK ⊢
                refine tell_do rfl ?_
                obtain ⟨c0, c1, c2, c3, c4, c5⟩ := cells6 (HP.below hB)
                go_simp
                exact hK _ (Below.refl _ _)
              case s43 =>
                intro W hB K hK
                simp only [tellK, Act.put, List.setIfInBounds_toArray, List.set_cons_zero, List.set_cons_succ] at hK ⊢
                refine tell_do rfl ?_
                obtain ⟨c0, c1, c2, c3, c4, c5⟩ := cells6 (HP.below hB)
                go_simp
                exact hK _ (Below.refl _ _)
              case s44 =>
                intro W hB K hK
                simp only [tellK, Act.put, List.setIfInBounds_toArray, List.set_cons_zero, List.set_cons_succ] at hK ⊢
                refine tell_do rfl ?_
                obtain ⟨c0, c1, c2, c3, c4, c5⟩ := cells6 (HP.below hB)
                go_simp
                exact hK _ (Below.refl _ _)
              case s45 =>
                intro W hB K hK
                simp only [tellK, Act.put, List.setIfInBounds_toArray, List.set_cons_zero, List.set_cons_succ] at hK ⊢
                refine tell_do rfl ?_
                obtain ⟨c0, c1, c2, c3, c4, c5⟩ := cells6 (HP.below hB)
                go_simp
                exact hK _ (Below.refl _ _)
              case s46 =>
                intro W hB K hK
                simp only [tellK, Act.put, List.setIfInBounds_toArray, List.set_cons_zero, List.set_cons_succ] at hK ⊢
                refine tell_do rfl ?_
                obtain ⟨c0, c1, c2, c3, c4, c5⟩ := cells6 (HP.below hB)
                go_simp
                exact hK _ (Below.refl _ _)
              case s47 =>
                intro W hB K hK
                simp only [tellK, Act.put, List.setIfInBounds_toArray, List.set_cons_zero, List.set_cons_succ] at hK ⊢
                refine tell_do rfl ?_
                obtain ⟨c0, c1, c2, c3, c4, c5⟩ := cells6 (HP.below hB)
                go_simp
                go_at_call 40; refine (alive37_c _).mono ?_; rintro e W9 ⟨rfl, g9⟩; exact hK _ g9
              case s48 =>
                intro W hB K hK
                simp only [tellK, Act.put, List.setIfInBounds_toArray, List.set_cons_zero, List.set_cons_succ] at hK ⊢
                refine tell_do rfl ?_
                obtain ⟨c0, c1, c2, c3, c4, c5⟩ := cells6 (HP.below hB)
                go_simp
                exact hK _ (Below.refl _ _)
              case s49 =>
                intro W hB K hK
                simp only [tellK, Act.put, List.setIfInBounds_toArray, List.set_cons_zero, List.set_cons_succ] at hK ⊢
                refine tell_do rfl ?_
                obtain ⟨c0, c1, c2, c3, c4, c5⟩ := cells6 (HP.below hB)
                go_simp
                exact hK _ (Below.refl _ _)
              case hQ =>
                intro W hB v13 h13 v15 h15 v35 h35 v36 h36
                replace h15 : Ri W v15 (tg :: s) := h15
                replace h35 : Ri W v35 [tg] := h35
                replace h36 : Ri W v36 (helpsL p l tg) := h36
                simp only [tellGo, sayAt, List.getD_cons_zero, List.getD_cons_succ, Act.put, List.setIfInBounds_toArray, List.set_cons_zero, List.set_cons_succ]
                have hBo := bt_ hBo hB
                clear ra rb hu hs hB
                go_wp2
                go_ret
                exact ⟨rfl, hBo⟩
        · have t0 : decide ((0 : Int) < (s.length : Int)) = false := decide_eq_false h0
          have t0' : decide (0 < s.length) = false := decide_eq_false (by omega)
          have hsl : Hid (s.length ≤ 1000000) := Lib.hid (by have := h.t; have := h.l; have := h.tl; have := h.wn; have := h.nl; omega)
          go_wp2_with fail
          refine (cDealers_c p _ l _ hu.out hl).mono ?_
          rintro e w2 ⟨za, rfl, ra, h1⟩
          replace hu := Lib.hid (hu.out.below h1)
          replace hs := Lib.hid (hs.out.below h1)
          have HP := HP.below h1
          have hB := bt_ hB h1
          obtain ⟨c0, c1, c2, c3, c4, c5⟩ := cells6 HP
          clear h1
          go_wp2_with fail
          refine (cHelps_c p _ l (1 : Int) _ hu.out hl).mono ?_
          rintro e w3 ⟨zb, rfl, rb, h1⟩
          replace hu := Lib.hid (hu.out.below h1)
          replace hs := Lib.hid (hs.out.below h1)
          replace ra := Lib.hid (ra.below h1)
          replace rb := Lib.hid rb
          have HP := HP.below h1
          have hB := bt_ hB h1
          obtain ⟨c0, c1, c2, c3, c4, c5⟩ := cells6 HP
          clear h1
          go_upto_region 8 with fail
          generalize w3 = wB at *
          have hBo := hB
          clear hB c0 c1 c2 c3 c4 c5
          have hP := Lib.hid HP
          cases hdb : dealB p l with
          | false =>
            cases htb : helpsB p l (1 : Int) with
            | false =>
              clear h
              clear hdb htb
              refine wp_region_tell [.v (.bool false), .v (.bool true), .v (.bool true), .v (undef), .v (undef), .v (undef), .v (.bool true), .v (.bool true), .v (.bool false), .v (.bool true), .v (.bool true), .v (undef), .v (undef), .v (undef), .v (undef), .v (undef), .v (undef), .v (.bool true), .v (.bool true), .v (undef), .v (undef), .v (undef), .v (undef), .v (undef), .v (undef), .v (undef), .v (undef), .v (.bool true), .v (.bool true), .v (.bool true), .v (.bool false), .v (.bool true), .v (.bool true), .v (undef), .v (undef), .v (undef), .v (undef), .v (undef), .v (undef), .v (undef), .v (undef), .v (undef), .v (undef), .v (undef), .v (.bool true), .v (.bool true), .v (.bool true), .v (.bool true), .v (.bool true), .v (.bool true)] [([], none), ([(0, some 47)], none), ([(1, some 48)], none), ([(2, some 49)], some (some 49, false)), ([(2, some 49)], some (some 49, false)), ([(2, some 49), (3, some 50), (4, some 51)], some (some 49, false)), ([(2, some 49), (5, some 52)], none), ([(6, some 53)], none), ([(7, some 54)], some (some 54, true)), ([(7, some 54), (8, some 55)], some (some 54, true)), ([(7, some 54), (9, some 56)], some (some 54, true)), ([(10, some 57)], some (some 57, false)), ([(10, some 57)], some (some 57, false)), ([(10, some 57), (12, some 59)], some (some 57, false)), ([(10, some 57)], some (some 57, false)), ([(10, some 57), (13, some 60), (14, some 61)], some (some 57, false)), ([(10, some 57), (11, some 58), (15, some 62)], some (some 57, false)), ([(7, some 54), (10, some 57), (16, some 63)], some (some 54, true)), ([(7, some 54), (17, some 64)], some (some 54, true)), ([(18, some 65)], some (some 65, false)), ([(18, some 65), (19, some 66)], some (some 65, false)), ([(18, some 65)], some (some 65, false)), ([(18, some 65), (21, some 68)], some (some 65, false)), ([(18, some 65)], some (some 65, false)), ([(18, some 65), (23, some 70)], some (some 65, false)), ([(18, some 65), (22, some 69), (24, some 71)], some (some 65, false)), ([(18, some 65), (20, some 67), (25, some 72)], some (some 65, false)), ([(7, some 54), (18, some 65), (26, some 73)], some (some 54, true)), ([(7, some 54), (27, some 74)], none), ([(28, some 75)], none), ([(29, some 76)], some (some 76, true)), ([(29, some 76), (30, some 77)], some (some 76, true)), ([(29, some 76), (31, some 78)], some (some 76, true)), ([(32, some 79)], some (some 79, false)), ([(32, some 79)], some (some 79, false)), ([(32, some 79), (34, some 81)], some (some 79, false)), ([(32, some 79), (33, some 80), (35, some 82)], some (some 79, false)), ([(32, some 79), (36, some 83)], some (some 79, false)), ([(32, some 79)], some (some 79, false)), ([(32, some 79), (38, some 85)], some (some 79, false)), ([(32, some 79)], some (some 79, false)), ([(32, some 79), (40, some 87)], some (some 79, false)), ([(32, some 79), (39, some 86), (41, some 88)], some (some 79, false)), ([(32, some 79), (37, some 84), (42, some 89)], some (some 79, false)), ([(29, some 76), (32, some 79), (43, some 90)], some (some 76, true)), ([(29, some 76), (44, some 91)], none), ([(45, some 92)], none), ([(46, some 93)], some (some 93, true)), ([(46, some 93), (47, some 94)], none), ([(48, some 95)], none)] [(0, some 47), (1, some 48), (2, some 49), (3, some 50), (4, some 51), (5, some 52), (6, some 53), (7, some 54), (8, some 55), (9, some 56), (10, some 57), (11, some 58), (12, some 59), (13, some 60), (14, some 61), (15, some 62), (16, some 63), (17, some 64), (18, some 65), (19, some 66), (20, some 67), (21, some 68), (22, some 69), (23, some 70), (24, some 71), (25, some 72), (26, some 73), (27, some 74), (28, some 75), (29, some 76), (30, some 77), (31, some 78), (32, some 79), (33, some 80), (34, some 81), (35, some 82), (36, some 83), (37, some 84), (38, some 85), (39, some 86), (40, some 87), (41, some 88), (42, some 89), (43, some 90), (44, some 91), (45, some 92), (46, some 93), (47, some 94), (48, some 95), (49, some 6)] (by kernel_rfl) (by kernel_rfl) (by kernel_rfl) (by kernel_rfl) (by exact ⟨trivial, trivial, trivial, trivial, trivial, trivial, trivial, trivial, trivial, trivial, trivial, trivial, trivial, trivial, trivial, trivial, trivial, trivial, trivial, trivial, trivial, trivial, trivial, trivial, trivial, trivial, trivial, trivial, trivial, trivial, trivial, trivial, trivial, trivial, trivial, trivial, trivial, trivial, trivial, trivial, trivial, trivial, trivial, trivial, trivial, trivial, trivial, trivial, trivial, trivial, trivial⟩) ⟨?s0, ?s1, ?s2, ?s3, ?s4, ?s5, ?s6, ?s7, ?s8, ?s9, ?s10, ?s11, ?s12, ?s13, ?s14, ?s15, ?s16, ?s17, ?s18, ?s19, ?s20, ?s21, ?s22, ?s23, ?s24, ?s25, ?s26, ?s27, ?s28, ?s29, ?s30, ?s31, ?s32, ?s33, ?s34, ?s35, ?s36, ?s37, ?s38, ?s39, ?s40, ?s41, ?s42, ?s43, ?s44, ?s45, ?s46, ?s47, ?s48, ?s49, trivial⟩ ?hQ
              case s0 =>
                intro W hB K hK
                simp only [tellK, Act.put, List.setIfInBounds_toArray, List.set_cons_zero, List.set_cons_succ] at hK ⊢
                refine tell_do rfl ?_
                obtain ⟨c0, c1, c2, c3, c4, c5⟩ := cells6 (HP.below hB)
                go_simp
                exact hK _ (Below.refl _ _)
              case s1 =>
                intro W hB K hK
                simp only [tellK, Act.put, List.setIfInBounds_toArray, List.set_cons_zero, List.set_cons_succ] at hK ⊢
                refine tell_do rfl ?_
                obtain ⟨c0, c1, c2, c3, c4, c5⟩ := cells6 (HP.below hB)
                go_simp
                exact hK _ (Below.refl _ _)
              case s2 =>
                intro W hB K hK
                simp only [tellK, Act.put, List.setIfInBounds_toArray, List.set_cons_zero, List.set_cons_succ] at hK ⊢
                refine tell_do rfl ?_
                obtain ⟨c0, c1, c2, c3, c4, c5⟩ := cells6 (HP.below hB)
                go_simp
                exact hK _ (Below.refl _ _)
              case s3 =>
                intro W hB K hK
                simp only [tellK, Act.put, List.setIfInBounds_toArray, List.set_cons_zero, List.set_cons_succ] at hK ⊢
                refine tell_not rfl ?_
                exact hK _ (Below.refl _ _)
              case s4 =>
                intro W hB K hK
                simp only [tellK, Act.put, List.setIfInBounds_toArray, List.set_cons_zero, List.set_cons_succ] at hK ⊢
                refine tell_not rfl ?_
                exact hK _ (Below.refl _ _)
              case s5 =>
                intro W hB K hK
                simp only [tellK, Act.put, List.setIfInBounds_toArray, List.set_cons_zero, List.set_cons_succ] at hK ⊢
                refine tell_not rfl ?_
                exact hK _ (Below.refl _ _)
              case s6 =>
                intro W hB K hK
                simp only [tellK, Act.put, List.setIfInBounds_toArray, List.set_cons_zero, List.set_cons_succ] at hK ⊢
                refine tell_do rfl ?_
                obtain ⟨c0, c1, c2, c3, c4, c5⟩ := cells6 (HP.below hB)
                go_simp
                exact hK _ (Below.refl _ _)
              case s7 =>
                intro W hB K hK
                simp only [tellK, Act.put, List.setIfInBounds_toArray, List.set_cons_zero, List.set_cons_succ] at hK ⊢
                refine tell_do rfl ?_
                obtain ⟨c0, c1, c2, c3, c4, c5⟩ := cells6 (HP.below hB)
                go_simp
                exact hK _ (Below.refl _ _)
              case s8 =>
                intro W hB K hK
                simp only [tellK, Act.put, List.setIfInBounds_toArray, List.set_cons_zero, List.set_cons_succ] at hK ⊢
                refine tell_do rfl ?_
                obtain ⟨c0, c1, c2, c3, c4, c5⟩ := cells6 (HP.below hB)
                go_simp
                exact hK _ (Below.refl _ _)
              case s9 =>
                intro W hB K hK
                simp only [tellK, Act.put, List.setIfInBounds_toArray, List.set_cons_zero, List.set_cons_succ] at hK ⊢
                refine tell_do rfl ?_
                obtain ⟨c0, c1, c2, c3, c4, c5⟩ := cells6 (HP.below hB)
                go_simp
                exact hK _ (Below.refl _ _)
              case s10 =>
                intro W hB K hK
                simp only [tellK, Act.put, List.setIfInBounds_toArray, List.set_cons_zero, List.set_cons_succ] at hK ⊢
                refine tell_do rfl ?_
                obtain ⟨c0, c1, c2, c3, c4, c5⟩ := cells6 (HP.below hB)
                go_simp
                exact hK _ (Below.refl _ _)
              case s11 =>
                intro W hB K hK
                simp only [tellK, Act.put, List.setIfInBounds_toArray, List.set_cons_zero, List.set_cons_succ] at hK ⊢
                refine tell_not rfl ?_
                exact hK _ (Below.refl _ _)
              case s12 =>
                intro W hB K hK
                simp only [tellK, Act.put, List.setIfInBounds_toArray, List.set_cons_zero, List.set_cons_succ] at hK ⊢
                refine tell_not rfl ?_
                exact hK _ (Below.refl _ _)
              case s13 =>
                intro W hB K hK
                simp only [tellK, Act.put, List.setIfInBounds_toArray, List.set_cons_zero, List.set_cons_succ] at hK ⊢
                refine tell_not rfl ?_
                exact hK _ (Below.refl _ _)
              case s14 =>
                intro W hB K hK
                simp only [tellK, Act.put, List.setIfInBounds_toArray, List.set_cons_zero, List.set_cons_succ] at hK ⊢
                refine tell_not rfl ?_
                exact hK _ (Below.refl _ _)
              case s15 =>
                intro W hB K hK
                simp only [tellK, Act.put, List.setIfInBounds_toArray, List.set_cons_zero, List.set_cons_succ] at hK ⊢
                refine tell_not rfl ?_
                exact hK _ (Below.refl _ _)
              case s16 =>
                intro W hB K hK
                simp only [tellK, Act.put, List.setIfInBounds_toArray, List.set_cons_zero, List.set_cons_succ] at hK ⊢
                refine tell_not rfl ?_
                exact hK _ (Below.refl _ _)
              case s17 =>
                intro W hB K hK
                simp only [tellK, Act.put, List.setIfInBounds_toArray, List.set_cons_zero, List.set_cons_succ] at hK ⊢
                refine tell_do rfl ?_
                obtain ⟨c0, c1, c2, c3, c4, c5⟩ := cells6 (HP.below hB)
                go_simp
                exact hK _ (Below.refl _ _)
              case s18 =>
                intro W hB K hK
                simp only [tellK, Act.put, List.setIfInBounds_toArray, List.set_cons_zero, List.set_cons_succ] at hK ⊢
                refine tell_do rfl ?_
                obtain ⟨c0, c1, c2, c3, c4, c5⟩ := cells6 (HP.below hB)
                go_simp
                exact hK _ (Below.refl _ _)
              case s19 =>
                intro W hB K hK
                simp only [tellK, Act.put, List.setIfInBounds_toArray, List.set_cons_zero, List.set_cons_succ] at hK ⊢
                refine tell_not rfl ?_
                exact hK _ (Below.refl _ _)
              case s20 =>
                intro W hB K hK
                simp only [tellK, Act.put, List.setIfInBounds_toArray, List.set_cons_zero, List.set_cons_succ] at hK ⊢
                refine tell_not rfl ?_
                exact hK _ (Below.refl _ _)
              case s21 =>
                intro W hB K hK
                simp only [tellK, Act.put, List.setIfInBounds_toArray, List.set_cons_zero, List.set_cons_succ] at hK ⊢
                refine tell_not rfl ?_
                exact hK _ (Below.refl _ _)
              case s22 =>
                intro W hB K hK
                simp only [tellK, Act.put, List.setIfInBounds_toArray, List.set_cons_zero, List.set_cons_succ] at hK ⊢
                refine tell_not rfl ?_
                exact hK _ (Below.refl _ _)
              case s23 =>
                intro W hB K hK
                simp only [tellK, Act.put, List.setIfInBounds_toArray, List.set_cons_zero, List.set_cons_succ] at hK ⊢
                refine tell_not rfl ?_
                exact hK _ (Below.refl _ _)
              case s24 =>
                intro W hB K hK
                simp only [tellK, Act.put, List.setIfInBounds_toArray, List.set_cons_zero, List.set_cons_succ] at hK ⊢
                refine tell_not rfl ?_
                exact hK _ (Below.refl _ _)
              case s25 =>
                intro W hB K hK
                simp only [tellK, Act.put, List.setIfInBounds_toArray, List.set_cons_zero, List.set_cons_succ] at hK ⊢
                refine tell_not rfl ?_
                exact hK _ (Below.refl _ _)
              case s26 =>
                intro W hB K hK
                simp only [tellK, Act.put, List.setIfInBounds_toArray, List.set_cons_zero, List.set_cons_succ] at hK ⊢
                refine tell_not rfl ?_
                exact hK _ (Below.refl _ _)
              case s27 =>
                intro W hB K hK
                simp only [tellK, Act.put, List.setIfInBounds_toArray, List.set_cons_zero, List.set_cons_succ] at hK ⊢
                refine tell_do rfl ?_
                obtain ⟨c0, c1, c2, c3, c4, c5⟩ := cells6 (HP.below hB)
                go_simp
                exact hK _ (Below.refl _ _)
              case s28 =>
                intro W hB K hK
                simp only [tellK, Act.put, List.setIfInBounds_toArray, List.set_cons_zero, List.set_cons_succ] at hK ⊢
                refine tell_do rfl ?_
                obtain ⟨c0, c1, c2, c3, c4, c5⟩ := cells6 (HP.below hB)
                go_simp
                exact hK _ (Below.refl _ _)
              case s29 =>
                intro W hB K hK
                simp only [tellK, Act.put, List.setIfInBounds_toArray, List.set_cons_zero, List.set_cons_succ] at hK ⊢
                refine tell_do rfl ?_
                obtain ⟨c0, c1, c2, c3, c4, c5⟩ := cells6 (HP.below hB)
                go_simp
                exact hK _ (Below.refl _ _)
              case s30 =>
                intro W hB K hK
                simp only [tellK, Act.put, List.setIfInBounds_toArray, List.set_cons_zero, List.set_cons_succ] at hK ⊢
                refine tell_do rfl ?_
                obtain ⟨c0, c1, c2, c3, c4, c5⟩ := cells6 (HP.below hB)
                go_simp
                exact hK _ (Below.refl _ _)
              case s31 =>
                intro W hB K hK
                simp only [tellK, Act.put, List.setIfInBounds_toArray, List.set_cons_zero, List.set_cons_succ] at hK ⊢
                refine tell_do rfl ?_
                obtain ⟨c0, c1, c2, c3, c4, c5⟩ := cells6 (HP.below hB)
                go_simp
                exact hK _ (Below.refl _ _)
              case s32 =>
                intro W hB K hK
                simp only [tellK, Act.put, List.setIfInBounds_toArray, List.set_cons_zero, List.set_cons_succ] at hK ⊢
                refine tell_do rfl ?_
                obtain ⟨c0, c1, c2, c3, c4, c5⟩ := cells6 (HP.below hB)
                go_simp
                exact hK _ (Below.refl _ _)
              case s33 =>
                intro W hB K hK
                simp only [tellK, Act.put, List.setIfInBounds_toArray, List.set_cons_zero, List.set_cons_succ] at hK ⊢
                refine tell_not rfl ?_
                exact hK _ (Below.refl _ _)
              case s34 =>
                intro W hB K hK
                simp only [tellK, Act.put, List.setIfInBounds_toArray, List.set_cons_zero, List.set_cons_succ] at hK ⊢
                refine tell_not rfl ?_
                exact hK _ (Below.refl _ _)
              case s35 =>
                intro W hB K hK
                simp only [tellK, Act.put, List.setIfInBounds_toArray, List.set_cons_zero, List.set_cons_succ] at hK ⊢
                refine tell_not rfl ?_
                exact hK _ (Below.refl _ _)
              case s36 =>
                intro W hB K hK
                simp only [tellK, Act.put, List.setIfInBounds_toArray, List.set_cons_zero, List.set_cons_succ] at hK ⊢
                refine tell_not rfl ?_
                exact hK _ (Below.refl _ _)
              case s37 =>
                intro W hB K hK
                simp only [tellK, Act.put, List.setIfInBounds_toArray, List.set_cons_zero, List.set_cons_succ] at hK ⊢
                refine tell_not rfl ?_
                exact hK _ (Below.refl _ _)
              case s38 =>
                intro W hB K hK
                simp only [tellK, Act.put, List.setIfInBounds_toArray, List.set_cons_zero, List.set_cons_succ] at hK ⊢
                refine tell_not rfl ?_
                exact hK _ (Below.refl _ _)
              case s39 =>
                intro W hB K hK
                simp only [tellK, Act.put, List.setIfInBounds_toArray, List.set_cons_zero, List.set_cons_succ] at hK ⊢
                refine tell_not rfl ?_
                exact hK _ (Below.refl _ _)
              case s40 =>
                intro W hB K hK
                simp only [tellK, Act.put, List.setIfInBounds_toArray, List.set_cons_zero, List.set_cons_succ] at hK ⊢
                refine tell_not rfl ?_
                exact hK _ (Below.refl _ _)
              case s41 =>
                intro W hB K hK
                simp only [tellK, Act.put, List.setIfInBounds_toArray, List.set_cons_zero, List.set_cons_succ] at hK ⊢
                refine tell_not rfl ?_
                exact hK _ (Below.refl _ _)
              case s42 =>
                intro W hB K hK
                simp only [tellK, Act.put, List.setIfInBounds_toArray, List.set_cons_zero, List.set_cons_succ] at hK ⊢
                refine tell_not rfl ?_
                exact hK _ (Below.refl _ _)
              case s43 =>
                intro W hB K hK
                simp only [tellK, Act.put, List.setIfInBounds_toArray, List.set_cons_zero, List.set_cons_succ] at hK ⊢
                refine tell_not rfl ?_
                exact hK _ (Below.refl _ _)
              case s44 =>
                intro W hB K hK
                simp only [tellK, Act.put, List.setIfInBounds_toArray, List.set_cons_zero, List.set_cons_succ] at hK ⊢
                refine tell_do rfl ?_
                obtain ⟨c0, c1, c2, c3, c4, c5⟩ := cells6 (HP.below hB)
                go_simp
                exact hK _ (Below.refl _ _)
              case s45 =>
                intro W hB K hK
                simp only [tellK, Act.put, List.setIfInBounds_toArray, List.set_cons_zero, List.set_cons_succ] at hK ⊢
                refine tell_do rfl ?_
                obtain ⟨c0, c1, c2, c3, c4, c5⟩ := cells6 (HP.below hB)
                go_simp
                exact hK _ (Below.refl _ _)
              case s46 =>
                intro W hB K hK
                simp only [tellK, Act.put, List.setIfInBounds_toArray, List.set_cons_zero, List.set_cons_succ] at hK ⊢
                refine tell_do rfl ?_
                obtain ⟨c0, c1, c2, c3, c4, c5⟩ := cells6 (HP.below hB)
                go_simp
                exact hK _ (Below.refl _ _)
              case s47 =>
                intro W hB K hK
                simp only [tellK, Act.put, List.setIfInBounds_toArray, List.set_cons_zero, List.set_cons_succ] at hK ⊢
                refine tell_do rfl ?_
                obtain ⟨c0, c1, c2, c3, c4, c5⟩ := cells6 (HP.below hB)
                go_simp
                go_at_call 40; refine (alive37_c _).mono ?_; rintro e W9 ⟨rfl, g9⟩; exact hK _ g9
              case s48 =>
                intro W hB K hK
                simp only [tellK, Act.put, List.setIfInBounds_toArray, List.set_cons_zero, List.set_cons_succ] at hK ⊢
                refine tell_do rfl ?_
                obtain ⟨c0, c1, c2, c3, c4, c5⟩ := cells6 (HP.below hB)
                go_simp
                exact hK _ (Below.refl _ _)
              case s49 =>
                intro W hB K hK
                simp only [tellK, Act.put, List.setIfInBounds_toArray, List.set_cons_zero, List.set_cons_succ] at hK ⊢
                refine tell_do rfl ?_
                obtain ⟨c0, c1, c2, c3, c4, c5⟩ := cells6 (HP.below hB)
                go_simp
                exact hK _ (Below.refl _ _)
              case hQ =>
                intro W hB
                simp only [tellGo, sayAt, List.getD_cons_zero, List.getD_cons_succ, Act.put, List.setIfInBounds_toArray, List.set_cons_zero, List.set_cons_succ]
                have hBo := bt_ hBo hB
                clear ra rb hu hs hB
                go_wp2
                go_ret
                exact ⟨rfl, hBo⟩
            | true =>
              have hf2 := Lib.hid (help_free h htb hsT)
              obtain ⟨t3, t4⟩ := ch_hyps h hsT htb
              clear h
              clear hdb htb
              refine wp_region_tell [.v (.bool false), .v (.bool true), .v (.bool true), .v (undef), .v (undef), .v (undef), .v (.bool true), .v (.bool true), .v (.bool true), .v (.bool false), .v (.bool false), .v (zb), .v (.int .i64 (1 : Int)), .p (isLit wB (1 : Int)), .v (.slice B s.length d), .p (isI ((1 : Int) :: s)), .v (.bool true), .v (.bool true), .v (.bool true), .v (undef), .v (undef), .v (undef), .v (undef), .v (undef), .v (undef), .v (undef), .v (undef), .v (.bool true), .v (.bool true), .v (.bool true), .v (.bool true), .v (.bool false), .v (.bool false), .v (zb), .v (.int .i64 (1 : Int)), .p (isI [(1 : Int)]), .p (isI (helpsL p l (1 : Int))), .v (.int .i64 ((helpsL p l (1 : Int)).length : Nat)), .v (.pointer (some ⟨w.heap.size, 1, none⟩)), .v (.int .i64 p.T), .v (.pointer (some ⟨w.heap.size, 2, none⟩)), .v (.int .i64 p.L), .v (.int .i64 (p.T + p.L)), .v (.bool true), .v (.bool true), .v (.bool true), .v (.bool true), .v (.bool true), .v (.bool true), .v (.bool true)] [([], none), ([(0, some 47)], none), ([(1, some 48)], none), ([(2, some 49)], some (some 49, false)), ([(2, some 49)], some (some 49, false)), ([(2, some 49), (3, some 50), (4, some 51)], some (some 49, false)), ([(2, some 49), (5, some 52)], none), ([(6, some 53)], none), ([(7, some 54)], some (some 54, true)), ([(7, some 54), (8, some 55)], some (some 54, true)), ([(7, some 54), (9, some 56)], some (some 54, true)), ([(10, some 57)], some (some 57, false)), ([(10, some 57)], some (some 57, false)), ([(10, some 57), (12, some 59)], some (some 57, false)), ([(10, some 57)], some (some 57, false)), ([(10, some 57), (13, some 60), (14, some 61)], some (some 57, false)), ([(10, some 57), (11, some 58), (15, some 62)], some (some 57, false)), ([(7, some 54), (10, some 57), (16, some 63)], some (some 54, true)), ([(7, some 54), (17, some 64)], some (some 54, true)), ([(18, some 65)], some (some 65, false)), ([(18, some 65), (19, some 66)], some (some 65, false)), ([(18, some 65)], some (some 65, false)), ([(18, some 65), (21, some 68)], some (some 65, false)), ([(18, some 65)], some (some 65, false)), ([(18, some 65), (23, some 70)], some (some 65, false)), ([(18, some 65), (22, some 69), (24, some 71)], some (some 65, false)), ([(18, some 65), (20, some 67), (25, some 72)], some (some 65, false)), ([(7, some 54), (18, some 65), (26, some 73)], some (some 54, true)), ([(7, some 54), (27, some 74)], none), ([(28, some 75)], none), ([(29, some 76)], some (some 76, true)), ([(29, some 76), (30, some 77)], some (some 76, true)), ([(29, some 76), (31, some 78)], some (some 76, true)), ([(32, some 79)], some (some 79, false)), ([(32, some 79)], some (some 79, false)), ([(32, some 79), (34, some 81)], some (some 79, false)), ([(32, some 79), (33, some 80), (35, some 82)], some (some 79, false)), ([(32, some 79), (36, some 83)], some (some 79, false)), ([(32, some 79)], some (some 79, false)), ([(32, some 79), (38, some 85)], some (some 79, false)), ([(32, some 79)], some (some 79, false)), ([(32, some 79), (40, some 87)], some (some 79, false)), ([(32, some 79), (39, some 86), (41, some 88)], some (some 79, false)), ([(32, some 79), (37, some 84), (42, some 89)], some (some 79, false)), ([(29, some 76), (32, some 79), (43, some 90)], some (some 76, true)), ([(29, some 76), (44, some 91)], none), ([(45, some 92)], none), ([(46, some 93)], some (some 93, true)), ([(46, some 93), (47, some 94)], none), ([(48, some 95)], none)] [(0, some 47), (1, some 48), (2, some 49), (3, some 50), (4, some 51), (5, some 52), (6, some 53), (7, some 54), (8, some 55), (9, some 56), (10, some 57), (11, some 58), (12, some 59), (13, some 60), (14, some 61), (15, some 62), (16, some 63), (17, some 64), (18, some 65), (19, some 66), (20, some 67), (21, some 68), (22, some 69), (23, some 70), (24, some 71), (25, some 72), (26, some 73), (27, some 74), (28, some 75), (29, some 76), (30, some 77), (31, some 78), (32, some 79), (33, some 80), (34, some 81), (35, some 82), (36, some 83), (37, some 84), (38, some 85), (39, some 86), (40, some 87), (41, some 88), (42, some 89), (43, some 90), (44, some 91), (45, some 92), (46, some 93), (47, some 94), (48, some 95), (49, some 6)] (by kernel_rfl) (by kernel_rfl) (by kernel_rfl) (by kernel_rfl) (by exact ⟨trivial, trivial, trivial, trivial, trivial, trivial, trivial, trivial, trivial, trivial, trivial, trivial, trivial, last_Lit _ _, trivial, last_I _, trivial, trivial, trivial, trivial, trivial, trivial, trivial, trivial, trivial, trivial, trivial, trivial, trivial, trivial, trivial, trivial, trivial, trivial, trivial, last_I _, last_I _, trivial, trivial, trivial, trivial, trivial, trivial, trivial, trivial, trivial, trivial, trivial, trivial, trivial, trivial⟩) ⟨?s0, ?s1, ?s2, ?s3, ?s4, ?s5, ?s6, ?s7, ?s8, ?s9, ?s10, ?s11, ?s12, ?s13, ?s14, ?s15, ?s16, ?s17, ?s18, ?s19, ?s20, ?s21, ?s22, ?s23, ?s24, ?s25, ?s26, ?s27, ?s28, ?s29, ?s30, ?s31, ?s32, ?s33, ?s34, ?s35, ?s36, ?s37, ?s38, ?s39, ?s40, ?s41, ?s42, ?s43, ?s44, ?s45, ?s46, ?s47, ?s48, ?s49, trivial⟩ ?hQ
              case s0 =>
                intro W hB K hK
                simp only [tellK, Act.put, List.setIfInBounds_toArray, List.set_cons_zero, List.set_cons_succ] at hK ⊢
                refine tell_do rfl ?_
                obtain ⟨c0, c1, c2, c3, c4, c5⟩ := cells6 (HP.below hB)
                go_simp
                exact hK _ (Below.refl _ _)
              case s1 =>
                intro W hB K hK
                simp only [tellK, Act.put, List.setIfInBounds_toArray, List.set_cons_zero, List.set_cons_succ] at hK ⊢
                refine tell_do rfl ?_
                obtain ⟨c0, c1, c2, c3, c4, c5⟩ := cells6 (HP.below hB)
                go_simp
                exact hK _ (Below.refl _ _)
              case s2 =>
                intro W hB K hK
                simp only [tellK, Act.put, List.setIfInBounds_toArray, List.set_cons_zero, List.set_cons_succ] at hK ⊢
                refine tell_do rfl ?_
                obtain ⟨c0, c1, c2, c3, c4, c5⟩ := cells6 (HP.below hB)
                go_simp
                exact hK _ (Below.refl _ _)
              case s3 =>
                intro W hB K hK
                simp only [tellK, Act.put, List.setIfInBounds_toArray, List.set_cons_zero, List.set_cons_succ] at hK ⊢
                refine tell_not rfl ?_
                exact hK _ (Below.refl _ _)
              case s4 =>
                intro W hB K hK
                simp only [tellK, Act.put, List.setIfInBounds_toArray, List.set_cons_zero, List.set_cons_succ] at hK ⊢
                refine tell_not rfl ?_
                exact hK _ (Below.refl _ _)
              case s5 =>
                intro W hB K hK
                simp only [tellK, Act.put, List.setIfInBounds_toArray, List.set_cons_zero, List.set_cons_succ] at hK ⊢
                refine tell_not rfl ?_
                exact hK _ (Below.refl _ _)
              case s6 =>
                intro W hB K hK
                simp only [tellK, Act.put, List.setIfInBounds_toArray, List.set_cons_zero, List.set_cons_succ] at hK ⊢
                refine tell_do rfl ?_
                obtain ⟨c0, c1, c2, c3, c4, c5⟩ := cells6 (HP.below hB)
                go_simp
                exact hK _ (Below.refl _ _)
              case s7 =>
                intro W hB K hK
                simp only [tellK, Act.put, List.setIfInBounds_toArray, List.set_cons_zero, List.set_cons_succ] at hK ⊢
                refine tell_do rfl ?_
                obtain ⟨c0, c1, c2, c3, c4, c5⟩ := cells6 (HP.below hB)
                go_simp
                exact hK _ (Below.refl _ _)
              case s8 =>
                intro W hB K hK
                simp only [tellK, Act.put, List.setIfInBounds_toArray, List.set_cons_zero, List.set_cons_succ] at hK ⊢
                refine tell_do rfl ?_
                obtain ⟨c0, c1, c2, c3, c4, c5⟩ := cells6 (HP.below hB)
                go_simp
                exact hK _ (Below.refl _ _)
              case s9 =>
                intro W hB K hK
                simp only [tellK, Act.put, List.setIfInBounds_toArray, List.set_cons_zero, List.set_cons_succ] at hK ⊢
                refine tell_do rfl ?_
                obtain ⟨c0, c1, c2, c3, c4, c5⟩ := cells6 (HP.below hB)
                go_simp
                exact hK _ (Below.refl _ _)
              case s10 =>
                intro W hB K hK
                simp only [tellK, Act.put, List.setIfInBounds_toArray, List.set_cons_zero, List.set_cons_succ] at hK ⊢
                refine tell_do rfl ?_
                obtain ⟨c0, c1, c2, c3, c4, c5⟩ := cells6 (HP.below hB)
                go_simp
                exact hK _ (Below.refl _ _)
              case s11 =>
                intro W hB K hK
                simp only [tellK, Act.put, List.setIfInBounds_toArray, List.set_cons_zero, List.set_cons_succ] at hK ⊢
                refine tell_do rfl ?_
                obtain ⟨c0, c1, c2, c3, c4, c5⟩ := cells6 (HP.below hB)
                go_simp
                exact hK _ (Below.refl _ _)
              case s12 =>
                intro W hB K hK
                simp only [tellK, Act.put, List.setIfInBounds_toArray, List.set_cons_zero, List.set_cons_succ] at hK ⊢
                refine tell_do rfl ?_
                obtain ⟨c0, c1, c2, c3, c4, c5⟩ := cells6 (HP.below hB)
                go_simp
                exact hK _ (Below.refl _ _)
              case s13 =>
                intro W hB K hK
                simp only [tellK, Act.put, List.setIfInBounds_toArray, List.set_cons_zero, List.set_cons_succ] at hK ⊢
                refine tell_do rfl ?_
                obtain ⟨c0, c1, c2, c3, c4, c5⟩ := cells6 (HP.below hB)
                go_simp
                exact hK _ _ ⟨W.heap.size, rfl, lit_ownI [(1 : Int)] #[.int .i64 (1 : Int)] rfl 1 rfl (by decide) hB.size⟩ (alloc_b _ _)
              case s14 =>
                intro W hB K hK
                simp only [tellK, Act.put, List.setIfInBounds_toArray, List.set_cons_zero, List.set_cons_succ] at hK ⊢
                refine tell_do rfl ?_
                obtain ⟨c0, c1, c2, c3, c4, c5⟩ := cells6 (HP.below hB)
                go_simp
                exact hK _ (Below.refl _ _)
              case s15 =>
                intro W hB v13 h13 K hK
                simp only [tellK, Act.put, List.setIfInBounds_toArray, List.set_cons_zero, List.set_cons_succ] at hK ⊢
                refine tell_do rfl ?_
                obtain ⟨c0, c1, c2, c3, c4, c5⟩ := cells6 (HP.below hB)
                obtain ⟨g, rfl, ho⟩ := h13; refine wp_app_lit (w0 := wB) (.tmp 60) (.tmp 61) rfl rfl rfl ho hB (hs.out.below hB) hsl.out ?_; intro v1 W1 q1 q2; exact hK _ _ q1.rk q2
              case s16 =>
                intro W hB v15 h15 K hK
                replace h15 : Ri W v15 ((1 : Int) :: s) := h15
                simp only [tellK, Act.put, List.setIfInBounds_toArray, List.set_cons_zero, List.set_cons_succ] at hK ⊢
                refine tell_do rfl ?_
                obtain ⟨c0, c1, c2, c3, c4, c5⟩ := cells6 (HP.below hB)
                go_simp
                go_at_call 43; refine (free_c _ _ (helpsL p l (1 : Int)) ((1 : Int) :: s) _ (rb.out.below hB) h15 hf2.out.1 hf2.out.2.1 hf2.out.2.2.1).mono ?_; rintro e W9 ⟨rfl, g9⟩; exact hK _ g9
              case s17 =>
                intro W hB K hK
                simp only [tellK, Act.put, List.setIfInBounds_toArray, List.set_cons_zero, List.set_cons_succ] at hK ⊢
                refine tell_do rfl ?_
                obtain ⟨c0, c1, c2, c3, c4, c5⟩ := cells6 (HP.below hB)
                go_simp
                exact hK _ (Below.refl _ _)
              case s18 =>
                intro W hB K hK
                simp only [tellK, Act.put, List.setIfInBounds_toArray, List.set_cons_zero, List.set_cons_succ] at hK ⊢
                refine tell_do rfl ?_
                obtain ⟨c0, c1, c2, c3, c4, c5⟩ := cells6 (HP.below hB)
                go_simp
                exact hK _ (Below.refl _ _)
              case s19 =>
                intro W hB K hK
                simp only [tellK, Act.put, List.setIfInBounds_toArray, List.set_cons_zero, List.set_cons_succ] at hK ⊢
                refine tell_not rfl ?_
                exact hK _ (Below.refl _ _)
              case s20 =>
                intro W hB K hK
                simp only [tellK, Act.put, List.setIfInBounds_toArray, List.set_cons_zero, List.set_cons_succ] at hK ⊢
                refine tell_not rfl ?_
                exact hK _ (Below.refl _ _)
              case s21 =>
                intro W hB K hK
                simp only [tellK, Act.put, List.setIfInBounds_toArray, List.set_cons_zero, List.set_cons_succ] at hK ⊢
                refine tell_not rfl ?_
                exact hK _ (Below.refl _ _)
              case s22 =>
                intro W hB K hK
                simp only [tellK, Act.put, List.setIfInBounds_toArray, List.set_cons_zero, List.set_cons_succ] at hK ⊢
                refine tell_not rfl ?_
                exact hK _ (Below.refl _ _)
              case s23 =>
                intro W hB K hK
                simp only [tellK, Act.put, List.setIfInBounds_toArray, List.set_cons_zero, List.set_cons_succ] at hK ⊢
                refine tell_not rfl ?_
                exact hK _ (Below.refl _ _)
              case s24 =>
                intro W hB K hK
                simp only [tellK, Act.put, List.setIfInBounds_toArray, List.set_cons_zero, List.set_cons_succ] at hK ⊢
                refine tell_not rfl ?_
                exact hK _ (Below.refl _ _)
              case s25 =>
                intro W hB K hK
                simp only [tellK, Act.put, List.setIfInBounds_toArray, List.set_cons_zero, List.set_cons_succ] at hK ⊢
                refine tell_not rfl ?_
                exact hK _ (Below.refl _ _)
              case s26 =>
                intro W hB K hK
                simp only [tellK, Act.put, List.setIfInBounds_toArray, List.set_cons_zero, List.set_cons_succ] at hK ⊢
                refine tell_not rfl ?_
                exact hK _ (Below.refl _ _)
              case s27 =>
                intro W hB K hK
                simp only [tellK, Act.put, List.setIfInBounds_toArray, List.set_cons_zero, List.set_cons_succ] at hK ⊢
                refine tell_do rfl ?_
                obtain ⟨c0, c1, c2, c3, c4, c5⟩ := cells6 (HP.below hB)
                go_simp
                exact hK _ (Below.refl _ _)
              case s28 =>
                intro W hB K hK
                simp only [tellK, Act.put, List.setIfInBounds_toArray, List.set_cons_zero, List.set_cons_succ] at hK ⊢
                refine tell_do rfl ?_
                obtain ⟨c0, c1, c2, c3, c4, c5⟩ := cells6 (HP.below hB)
                go_simp
                exact hK _ (Below.refl _ _)
              case s29 =>
                intro W hB K hK
                simp only [tellK, Act.put, List.setIfInBounds_toArray, List.set_cons_zero, List.set_cons_succ] at hK ⊢
                refine tell_do rfl ?_
                obtain ⟨c0, c1, c2, c3, c4, c5⟩ := cells6 (HP.below hB)
                go_simp
                exact hK _ (Below.refl _ _)
              case s30 =>
                intro W hB K hK
                simp only [tellK, Act.put, List.setIfInBounds_toArray, List.set_cons_zero, List.set_cons_succ] at hK ⊢
                refine tell_do rfl ?_
                obtain ⟨c0, c1, c2, c3, c4, c5⟩ := cells6 (HP.below hB)
                go_simp
                exact hK _ (Below.refl _ _)
              case s31 =>
                intro W hB K hK
                simp only [tellK, Act.put, List.setIfInBounds_toArray, List.set_cons_zero, List.set_cons_succ] at hK ⊢
                refine tell_do rfl ?_
                obtain ⟨c0, c1, c2, c3, c4, c5⟩ := cells6 (HP.below hB)
                go_simp
                exact hK _ (Below.refl _ _)
              case s32 =>
                intro W hB K hK
                simp only [tellK, Act.put, List.setIfInBounds_toArray, List.set_cons_zero, List.set_cons_succ] at hK ⊢
                refine tell_do rfl ?_
                obtain ⟨c0, c1, c2, c3, c4, c5⟩ := cells6 (HP.below hB)
                go_simp
                exact hK _ (Below.refl _ _)
              case s33 =>
                intro W hB K hK
                simp only [tellK, Act.put, List.setIfInBounds_toArray, List.set_cons_zero, List.set_cons_succ] at hK ⊢
                refine tell_do rfl ?_
                obtain ⟨c0, c1, c2, c3, c4, c5⟩ := cells6 (HP.below hB)
                go_simp
                exact hK _ (Below.refl _ _)
              case s34 =>
                intro W hB K hK
                simp only [tellK, Act.put, List.setIfInBounds_toArray, List.set_cons_zero, List.set_cons_succ] at hK ⊢
                refine tell_do rfl ?_
                obtain ⟨c0, c1, c2, c3, c4, c5⟩ := cells6 (HP.below hB)
                go_simp
                exact hK _ (Below.refl _ _)
              case s35 =>
                intro W hB K hK
                simp only [tellK, Act.put, List.setIfInBounds_toArray, List.set_cons_zero, List.set_cons_succ] at hK ⊢
                refine tell_do rfl ?_
                obtain ⟨c0, c1, c2, c3, c4, c5⟩ := cells6 (HP.below hB)
                go_simp
                exact hK _ _ (lit_i W [(1 : Int)] #[.int .i64 (1 : Int)] 3 1 1 rfl rfl (by decide) (by decide)) (alloc_b _ _)
              case s36 =>
                intro W hB v35 h35 K hK
                replace h35 : Ri W v35 [(1 : Int)] := h35
                simp only [tellK, Act.put, List.setIfInBounds_toArray, List.set_cons_zero, List.set_cons_succ] at hK ⊢
                refine tell_do rfl ?_
                obtain ⟨c0, c1, c2, c3, c4, c5⟩ := cells6 (HP.below hB)
                go_simp
                go_at_call 44; refine (rest_c _ _ (helpsL p l (1 : Int)) [(1 : Int)] _ (rb.out.below hB) h35 hf2.out.1).mono ?_; rintro e W9 ⟨z, r, rfl, hz, g9, hr⟩; rw [hf2.out.2.2.2.1 r hr] at hz; exact hK _ _ hz.rk g9
              case s37 =>
                intro W hB v36 h36 K hK
                replace h36 : Ri W v36 (helpsL p l (1 : Int)) := h36
                simp only [tellK, Act.put, List.setIfInBounds_toArray, List.set_cons_zero, List.set_cons_succ] at hK ⊢
                refine tell_do rfl ?_
                obtain ⟨c0, c1, c2, c3, c4, c5⟩ := cells6 (HP.below hB)
                obtain ⟨A9, c9, rfl⟩ := rk_form h36; go_simp; exact hK _ (Below.refl _ _)
              case s38 =>
                intro W hB K hK
                simp only [tellK, Act.put, List.setIfInBounds_toArray, List.set_cons_zero, List.set_cons_succ] at hK ⊢
                refine tell_do rfl ?_
                obtain ⟨c0, c1, c2, c3, c4, c5⟩ := cells6 (HP.below hB)
                go_simp
                exact hK _ (Below.refl _ _)
              case s39 =>
                intro W hB K hK
                simp only [tellK, Act.put, List.setIfInBounds_toArray, List.set_cons_zero, List.set_cons_succ] at hK ⊢
                refine tell_do rfl ?_
                obtain ⟨c0, c1, c2, c3, c4, c5⟩ := cells6 (HP.below hB)
                go_simp
                exact hK _ (Below.refl _ _)
              case s40 =>
                intro W hB K hK
                simp only [tellK, Act.put, List.setIfInBounds_toArray, List.set_cons_zero, List.set_cons_succ] at hK ⊢
                refine tell_do rfl ?_
                obtain ⟨c0, c1, c2, c3, c4, c5⟩ := cells6 (HP.below hB)
                go_simp
                exact hK _ (Below.refl _ _)
              case s41 =>
                intro W hB K hK
                simp only [tellK, Act.put, List.setIfInBounds_toArray, List.set_cons_zero, List.set_cons_succ] at hK ⊢
                refine tell_do rfl ?_
                obtain ⟨c0, c1, c2, c3, c4, c5⟩ := cells6 (HP.below hB)
                go_simp
                exact hK _ (Below.refl _ _)
              case s42 =>
                intro W hB K hK
                simp only [tellK, Act.put, List.setIfInBounds_toArray, List.set_cons_zero, List.set_cons_succ] at hK ⊢
                refine tell_do rfl ?_
                obtain ⟨c0, c1, c2, c3, c4, c5⟩ := cells6 (HP.below hB)
                go_simp
                exact hK _ (Below.refl _ _)
              case s43 =>
                intro W hB K hK
                simp only [tellK, Act.put, List.setIfInBounds_toArray, List.set_cons_zero, List.set_cons_succ] at hK ⊢
                refine tell_do rfl ?_
                obtain ⟨c0, c1, c2, c3, c4, c5⟩ := cells6 (HP.below hB)
                go_simp
                exact hK _ (Below.refl _ _)
              case s44 =>
                intro W hB K hK
                simp only [tellK, Act.put, List.setIfInBounds_toArray, List.set_cons_zero, List.set_cons_succ] at hK ⊢
                refine tell_do rfl ?_
                obtain ⟨c0, c1, c2, c3, c4, c5⟩ := cells6 (HP.below hB)
                go_simp
                exact hK _ (Below.refl _ _)
              case s45 =>
                intro W hB K hK
                simp only [tellK, Act.put, List.setIfInBounds_toArray, List.set_cons_zero, List.set_cons_succ] at hK ⊢
                refine tell_do rfl ?_
                obtain ⟨c0, c1, c2, c3, c4, c5⟩ := cells6 (HP.below hB)
                go_simp
                exact hK _ (Below.refl _ _)
              case s46 =>
                intro W hB K hK
                simp only [tellK, Act.put, List.setIfInBounds_toArray, List.set_cons_zero, List.set_cons_succ] at hK ⊢
                refine tell_do rfl ?_
                obtain ⟨c0, c1, c2, c3, c4, c5⟩ := cells6 (HP.below hB)
                go_simp
                exact hK _ (Below.refl _ _)
              case s47 =>
                intro W hB K hK
                simp only [tellK, Act.put, List.setIfInBounds_toArray, List.set_cons_zero, List.set_cons_succ] at hK ⊢
                refine tell_do rfl ?_
                obtain ⟨c0, c1, c2, c3, c4, c5⟩ := cells6 (HP.below hB)
                go_simp
                go_at_call 40; refine (alive37_c _).mono ?_; rintro e W9 ⟨rfl, g9⟩; exact hK _ g9
              case s48 =>
                intro W hB K hK
                simp only [tellK, Act.put, List.setIfInBounds_toArray, List.set_cons_zero, List.set_cons_succ] at hK ⊢
                refine tell_do rfl ?_
                obtain ⟨c0, c1, c2, c3, c4, c5⟩ := cells6 (HP.below hB)
                go_simp
                exact hK _ (Below.refl _ _)
              case s49 =>
                intro W hB K hK
                simp only [tellK, Act.put, List.setIfInBounds_toArray, List.set_cons_zero, List.set_cons_succ] at hK ⊢
                refine tell_do rfl ?_
                obtain ⟨c0, c1, c2, c3, c4, c5⟩ := cells6 (HP.below hB)
                go_simp
                exact hK _ (Below.refl _ _)
              case hQ =>
                intro W hB v13 h13 v15 h15 v35 h35 v36 h36
                replace h15 : Ri W v15 ((1 : Int) :: s) := h15
                replace h35 : Ri W v35 [(1 : Int)] := h35
                replace h36 : Ri W v36 (helpsL p l (1 : Int)) := h36
                simp only [tellGo, sayAt, List.getD_cons_zero, List.getD_cons_succ, Act.put, List.setIfInBounds_toArray, List.set_cons_zero, List.set_cons_succ]
                have hBo := bt_ hBo hB
                clear ra rb hu hs hB
                go_wp2
                go_ret
                exact ⟨rfl, hBo⟩
          | true =>
            have hf1 := Lib.hid (deal_free h hdb hsT)
            cases htb : helpsB p l (1 : Int) with
            | false =>
              clear h
              clear hdb htb
              refine wp_region_tell [.v (.bool true), .v (.bool false), .v (.bool false), .v (za), .v (.slice B s.length d), .v (.bool true), .v (.bool true), .v (.bool true), .v (.bool false), .v (.bool true), .v (.bool true), .v (undef), .v (undef), .v (undef), .v (undef), .v (undef), .v (undef), .v (.bool true), .v (.bool true), .v (undef), .v (undef), .v (undef), .v (undef), .v (undef), .v (undef), .v (undef), .v (undef), .v (.bool true), .v (.bool true), .v (.bool true), .v (.bool false), .v (.bool true), .v (.bool true), .v (undef), .v (undef), .v (undef), .v (undef), .v (undef), .v (undef), .v (undef), .v (undef), .v (undef), .v (undef), .v (undef), .v (.bool true), .v (.bool true), .v (.bool true), .v (.bool true), .v (.bool true), .v (.bool true)] [([], none), ([(0, some 47)], none), ([(1, some 48)], none), ([(2, some 49)], some (some 49, false)), ([(2, some 49)], some (some 49, false)), ([(2, some 49), (3, some 50), (4, some 51)], some (some 49, false)), ([(2, some 49), (5, some 52)], none), ([(6, some 53)], none), ([(7, some 54)], some (some 54, true)), ([(7, some 54), (8, some 55)], some (some 54, true)), ([(7, some 54), (9, some 56)], some (some 54, true)), ([(10, some 57)], some (some 57, false)), ([(10, some 57)], some (some 57, false)), ([(10, some 57), (12, some 59)], some (some 57, false)), ([(10, some 57)], some (some 57, false)), ([(10, some 57), (13, some 60), (14, some 61)], some (some 57, false)), ([(10, some 57), (11, some 58), (15, some 62)], some (some 57, false)), ([(7, some 54), (10, some 57), (16, some 63)], some (some 54, true)), ([(7, some 54), (17, some 64)], some (some 54, true)), ([(18, some 65)], some (some 65, false)), ([(18, some 65), (19, some 66)], some (some 65, false)), ([(18, some 65)], some (some 65, false)), ([(18, some 65), (21, some 68)], some (some 65, false)), ([(18, some 65)], some (some 65, false)), ([(18, some 65), (23, some 70)], some (some 65, false)), ([(18, some 65), (22, some 69), (24, some 71)], some (some 65, false)), ([(18, some 65), (20, some 67), (25, some 72)], some (some 65, false)), ([(7, some 54), (18, some 65), (26, some 73)], some (some 54, true)), ([(7, some 54), (27, some 74)], none), ([(28, some 75)], none), ([(29, some 76)], some (some 76, true)), ([(29, some 76), (30, some 77)], some (some 76, true)), ([(29, some 76), (31, some 78)], some (some 76, true)), ([(32, some 79)], some (some 79, false)), ([(32, some 79)], some (some 79, false)), ([(32, some 79), (34, some 81)], some (some 79, false)), ([(32, some 79), (33, some 80), (35, some 82)], some (some 79, false)), ([(32, some 79), (36, some 83)], some (some 79, false)), ([(32, some 79)], some (some 79, false)), ([(32, some 79), (38, some 85)], some (some 79, false)), ([(32, some 79)], some (some 79, false)), ([(32, some 79), (40, some 87)], some (some 79, false)), ([(32, some 79), (39, some 86), (41, some 88)], some (some 79, false)), ([(32, some 79), (37, some 84), (42, some 89)], some (some 79, false)), ([(29, some 76), (32, some 79), (43, some 90)], some (some 76, true)), ([(29, some 76), (44, some 91)], none), ([(45, some 92)], none), ([(46, some 93)], some (some 93, true)), ([(46, some 93), (47, some 94)], none), ([(48, some 95)], none)] [(0, some 47), (1, some 48), (2, some 49), (3, some 50), (4, some 51), (5, some 52), (6, some 53), (7, some 54), (8, some 55), (9, some 56), (10, some 57), (11, some 58), (12, some 59), (13, some 60), (14, some 61), (15, some 62), (16, some 63), (17, some 64), (18, some 65), (19, some 66), (20, some 67), (21, some 68), (22, some 69), (23, some 70), (24, some 71), (25, some 72), (26, some 73), (27, some 74), (28, some 75), (29, some 76), (30, some 77), (31, some 78), (32, some 79), (33, some 80), (34, some 81), (35, some 82), (36, some 83), (37, some 84), (38, some 85), (39, some 86), (40, some 87), (41, some 88), (42, some 89), (43, some 90), (44, some 91), (45, some 92), (46, some 93), (47, some 94), (48, some 95), (49, some 6)] (by kernel_rfl) (by kernel_rfl) (by kernel_rfl) (by kernel_rfl) (by exact ⟨trivial, trivial, trivial, trivial, trivial, trivial, trivial, trivial, trivial, trivial, trivial, trivial, trivial, trivial, trivial, trivial, trivial, trivial, trivial, trivial, trivial, trivial, trivial, trivial, trivial, trivial, trivial, trivial, trivial, trivial, trivial, trivial, trivial, trivial, trivial, trivial, trivial, trivial, trivial, trivial, trivial, trivial, trivial, trivial, trivial, trivial, trivial, trivial, trivial, trivial, trivial⟩) ⟨?s0, ?s1, ?s2, ?s3, ?s4, ?s5, ?s6, ?s7, ?s8, ?s9, ?s10, ?s11, ?s12, ?s13, ?s14, ?s15, ?s16, ?s17, ?s18, ?s19, ?s20, ?s21, ?s22, ?s23, ?s24, ?s25, ?s26, ?s27, ?s28, ?s29, ?s30, ?s31, ?s32, ?s33, ?s34, ?s35, ?s36, ?s37, ?s38, ?s39, ?s40, ?s41, ?s42, ?s43, ?s44, ?s45, ?s46, ?s47, ?s48, ?s49, trivial⟩ ?hQ
              case s0 =>
                intro W hB K hK
                simp only [tellK, Act.put, List.setIfInBounds_toArray, List.set_cons_zero, List.set_cons_succ] at hK ⊢
                refine tell_do rfl ?_
                obtain ⟨c0, c1, c2, c3, c4, c5⟩ := cells6 (HP.below hB)
                go_simp
                exact hK _ (Below.refl _ _)
              case s1 =>
                intro W hB K hK
                simp only [tellK, Act.put, List.setIfInBounds_toArray, List.set_cons_zero, List.set_cons_succ] at hK ⊢
                refine tell_do rfl ?_
                obtain ⟨c0, c1, c2, c3, c4, c5⟩ := cells6 (HP.below hB)
                go_simp
                exact hK _ (Below.refl _ _)
              case s2 =>
                intro W hB K hK
                simp only [tellK, Act.put, List.setIfInBounds_toArray, List.set_cons_zero, List.set_cons_succ] at hK ⊢
                refine tell_do rfl ?_
                obtain ⟨c0, c1, c2, c3, c4, c5⟩ := cells6 (HP.below hB)
                go_simp
                exact hK _ (Below.refl _ _)
              case s3 =>
                intro W hB K hK
                simp only [tellK, Act.put, List.setIfInBounds_toArray, List.set_cons_zero, List.set_cons_succ] at hK ⊢
                refine tell_do rfl ?_
                obtain ⟨c0, c1, c2, c3, c4, c5⟩ := cells6 (HP.below hB)
                go_simp
                exact hK _ (Below.refl _ _)
              case s4 =>
                intro W hB K hK
                simp only [tellK, Act.put, List.setIfInBounds_toArray, List.set_cons_zero, List.set_cons_succ] at hK ⊢
                refine tell_do rfl ?_
                obtain ⟨c0, c1, c2, c3, c4, c5⟩ := cells6 (HP.below hB)
                go_simp
                exact hK _ (Below.refl _ _)
              case s5 =>
                intro W hB K hK
                simp only [tellK, Act.put, List.setIfInBounds_toArray, List.set_cons_zero, List.set_cons_succ] at hK ⊢
                refine tell_do rfl ?_
                obtain ⟨c0, c1, c2, c3, c4, c5⟩ := cells6 (HP.below hB)
                go_simp
                go_at_call 43; refine (free_c _ _ (dealL p l) s _ (ra.out.below hB) (hs.out.below hB) hf1.out.1 hf1.out.2.1 hf1.out.2.2).mono ?_; rintro e W9 ⟨rfl, g9⟩; exact hK _ g9
              case s6 =>
                intro W hB K hK
                simp only [tellK, Act.put, List.setIfInBounds_toArray, List.set_cons_zero, List.set_cons_succ] at hK ⊢
                refine tell_do rfl ?_
                obtain ⟨c0, c1, c2, c3, c4, c5⟩ := cells6 (HP.below hB)
                go_simp
                exact hK _ (Below.refl _ _)
              case s7 =>
                intro W hB K hK
                simp only [tellK, Act.put, List.setIfInBounds_toArray, List.set_cons_zero, List.set_cons_succ] at hK ⊢
                refine tell_do rfl ?_
                obtain ⟨c0, c1, c2, c3, c4, c5⟩ := cells6 (HP.below hB)
                go_simp
                exact hK _ (Below.refl _ _)
              case s8 =>
                intro W hB K hK
                simp only [tellK, Act.put, List.setIfInBounds_toArray, List.set_cons_zero, List.set_cons_succ] at hK ⊢
                refine tell_do rfl ?_
                obtain ⟨c0, c1, c2, c3, c4, c5⟩ := cells6 (HP.below hB)
                go_simp
                exact hK _ (Below.refl _ _)
              case s9 =>
                intro W hB K hK
                simp only [tellK, Act.put, List.setIfInBounds_toArray, List.set_cons_zero, List.set_cons_succ] at hK ⊢
                refine tell_do rfl ?_
                obtain ⟨c0, c1, c2, c3, c4, c5⟩ := cells6 (HP.below hB)
                go_simp
                exact hK _ (Below.refl _ _)
              case s10 =>
                intro W hB K hK
                simp only [tellK, Act.put, List.setIfInBounds_toArray, List.set_cons_zero, List.set_cons_succ] at hK ⊢
                refine tell_do rfl ?_
                obtain ⟨c0, c1, c2, c3, c4, c5⟩ := cells6 (HP.below hB)
                go_simp
                exact hK _ (Below.refl _ _)
              case s11 =>
                intro W hB K hK
                simp only [tellK, Act.put, List.setIfInBounds_toArray, List.set_cons_zero, List.set_cons_succ] at hK ⊢
                refine tell_not rfl ?_
                exact hK _ (Below.refl _ _)
              case s12 =>
                intro W hB K hK
                simp only [tellK, Act.put, List.setIfInBounds_toArray, List.set_cons_zero, List.set_cons_succ] at hK ⊢
                refine tell_not rfl ?_
                exact hK _ (Below.refl _ _)
              case s13 =>
                intro W hB K hK
                simp only [tellK, Act.put, List.setIfInBounds_toArray, List.set_cons_zero, List.set_cons_succ] at hK ⊢
                refine tell_not rfl ?_
                exact hK _ (Below.refl _ _)
              case s14 =>
                intro W hB K hK
                simp only [tellK, Act.put, List.setIfInBounds_toArray, List.set_cons_zero, List.set_cons_succ] at hK ⊢
                refine tell_not rfl ?_
                exact hK _ (Below.refl _ _)
              case s15 =>
                intro W hB K hK
                simp only [tellK, Act.put, List.setIfInBounds_toArray, List.set_cons_zero, List.set_cons_succ] at hK ⊢
                refine tell_not rfl ?_
                exact hK _ (Below.refl _ _)
              case s16 =>
                intro W hB K hK
                simp only [tellK, Act.put, List.setIfInBounds_toArray, List.set_cons_zero, List.set_cons_succ] at hK ⊢
                refine tell_not rfl ?_
                exact hK _ (Below.refl _ _)
              case s17 =>
                intro W hB K hK
                simp only [tellK, Act.put, List.setIfInBounds_toArray, List.set_cons_zero, List.set_cons_succ] at hK ⊢
                refine tell_do rfl ?_
                obtain ⟨c0, c1, c2, c3, c4, c5⟩ := cells6 (HP.below hB)
                go_simp
                exact hK _ (Below.refl _ _)
              case s18 =>
                intro W hB K hK
                simp only [tellK, Act.put, List.setIfInBounds_toArray, List.set_cons_zero, List.set_cons_succ] at hK ⊢
                refine tell_do rfl ?_
                obtain ⟨c0, c1, c2, c3, c4, c5⟩ := cells6 (HP.below hB)
                go_simp
                exact hK _ (Below.refl _ _)
              case s19 =>
                intro W hB K hK
                simp only [tellK, Act.put, List.setIfInBounds_toArray, List.set_cons_zero, List.set_cons_succ] at hK ⊢
                refine tell_not rfl ?_
                exact hK _ (Below.refl _ _)
              case s20 =>
                intro W hB K hK
                simp only [tellK, Act.put, List.setIfInBounds_toArray, List.set_cons_zero, List.set_cons_succ] at hK ⊢
                refine tell_not rfl ?_
                exact hK _ (Below.refl _ _)
              case s21 =>
                intro W hB K hK
                simp only [tellK, Act.put, List.setIfInBounds_toArray, List.set_cons_zero, List.set_cons_succ] at hK ⊢
                refine tell_not rfl ?_
                exact hK _ (Below.refl _ _)
              case s22 =>
                intro W hB K hK
                simp only [tellK, Act.put, List.setIfInBounds_toArray, List.set_cons_zero, List.set_cons_succ] at hK ⊢
                refine tell_not rfl ?_
                exact hK _ (Below.refl _ _)
              case s23 =>
                intro W hB K hK
                simp only [tellK, Act.put, List.setIfInBounds_toArray, List.set_cons_zero, List.set_cons_succ] at hK ⊢
                refine tell_not rfl ?_
                exact hK _ (Below.refl _ _)
              case s24 =>
                intro W hB K hK
                simp only [tellK, Act.put, List.setIfInBounds_toArray, List.set_cons_zero, List.set_cons_succ] at hK ⊢
                refine tell_not rfl ?_
                exact hK _ (Below.refl _ _)
              case s25 =>
                intro W hB K hK
                simp only [tellK, Act.put, List.setIfInBounds_toArray, List.set_cons_zero, List.set_cons_succ] at hK ⊢
                refine tell_not rfl ?_
                exact hK _ (Below.refl _ _)
              case s26 =>
                intro W hB K hK
                simp only [tellK, Act.put, List.setIfInBounds_toArray, List.set_cons_zero, List.set_cons_succ] at hK ⊢
                refine tell_not rfl ?_
                exact hK _ (Below.refl _ _)
              case s27 =>
                intro W hB K hK
                simp only [tellK, Act.put, List.setIfInBounds_toArray, List.set_cons_zero, List.set_cons_succ] at hK ⊢
                refine tell_do rfl ?_
                obtain ⟨c0, c1, c2, c3, c4, c5⟩ := cells6 (HP.below hB)
                go_simp
                exact hK _ (Below.refl _ _)
              case s28 =>
                intro W hB K hK
                simp only [tellK, Act.put, List.setIfInBounds_toArray, List.set_cons_zero, List.set_cons_succ] at hK ⊢
                refine tell_do rfl ?_
                obtain ⟨c0, c1, c2, c3, c4, c5⟩ := cells6 (HP.below hB)
                go_simp
                exact hK _ (Below.refl _ _)
              case s29 =>
                intro W hB K hK
                simp only [tellK, Act.put, List.setIfInBounds_toArray, List.set_cons_zero, List.set_cons_succ] at hK ⊢
                refine tell_do rfl ?_
                obtain ⟨c0, c1, c2, c3, c4, c5⟩ := cells6 (HP.below hB)
                go_simp
                exact hK _ (Below.refl _ _)
              case s30 =>
                intro W hB K hK
                simp only [tellK, Act.put, List.setIfInBounds_toArray, List.set_cons_zero, List.set_cons_succ] at hK ⊢
                refine tell_do rfl ?_
                obtain ⟨c0, c1, c2, c3, c4, c5⟩ := cells6 (HP.below hB)
                go_simp
                exact hK _ (Below.refl _ _)
              case s31 =>
                intro W hB K hK
                simp only [tellK, Act.put, List.setIfInBounds_toArray, List.set_cons_zero, List.set_cons_succ] at hK ⊢
                refine tell_do rfl ?_
                obtain ⟨c0, c1, c2, c3, c4, c5⟩ := cells6 (HP.below hB)
                go_simp
                exact hK _ (Below.refl _ _)
              case s32 =>
                intro W hB K hK
                simp only [tellK, Act.put, List.setIfInBounds_toArray, List.set_cons_zero, List.set_cons_succ] at hK ⊢
                refine tell_do rfl ?_
                obtain ⟨c0, c1, c2, c3, c4, c5⟩ := cells6 (HP.below hB)
                go_simp
                exact hK _ (Below.refl _ _)
              case s33 =>
                intro W hB K hK
                simp only [tellK, Act.put, List.setIfInBounds_toArray, List.set_cons_zero, List.set_cons_succ] at hK ⊢
                refine tell_not rfl ?_
                exact hK _ (Below.refl _ _)
              case s34 =>
                intro W hB K hK
                simp only [tellK, Act.put, List.setIfInBounds_toArray, List.set_cons_zero, List.set_cons_succ] at hK ⊢
                refine tell_not rfl ?_
                exact hK _ (Below.refl _ _)
              case s35 =>
                intro W hB K hK
                simp only [tellK, Act.put, List.setIfInBounds_toArray, List.set_cons_zero, List.set_cons_succ] at hK ⊢
                refine tell_not rfl ?_
                exact hK _ (Below.refl _ _)
              case s36 =>
                intro W hB K hK
                simp only [tellK, Act.put, List.setIfInBounds_toArray, List.set_cons_zero, List.set_cons_succ] at hK ⊢
                refine tell_not rfl ?_
                exact hK _ (Below.refl _ _)
              case s37 =>
                intro W hB K hK
                simp only [tellK, Act.put, List.setIfInBounds_toArray, List.set_cons_zero, List.set_cons_succ] at hK ⊢
                refine tell_not rfl ?_
                exact hK _ (Below.refl _ _)
              case s38 =>
                intro W hB K hK
                simp only [tellK, Act.put, List.setIfInBounds_toArray, List.set_cons_zero, List.set_cons_succ] at hK ⊢
                refine tell_not rfl ?_
                exact hK _ (Below.refl _ _)
              case s39 =>
                intro W hB K hK
                simp only [tellK, Act.put, List.setIfInBounds_toArray, List.set_cons_zero, List.set_cons_succ] at hK ⊢
                refine tell_not rfl ?_
                exact hK _ (Below.refl _ _)
              case s40 =>
                intro W hB K hK
                simp only [tellK, Act.put, List.setIfInBounds_toArray, List.set_cons_zero, List.set_cons_succ] at hK ⊢
                refine tell_not rfl ?_
                exact hK _ (Below.refl _ _)
              case s41 =>
                intro W hB K hK
                simp only [tellK, Act.put, List.setIfInBounds_toArray, List.set_cons_zero, List.set_cons_succ] at hK ⊢
                refine tell_not rfl ?_
                exact hK _ (Below.refl _ _)
              case s42 =>
                intro W hB K hK
                simp only [tellK, Act.put, List.setIfInBounds_toArray, List.set_cons_zero, List.set_cons_succ] at hK ⊢
                refine tell_not rfl ?_
                exact hK _ (Below.refl _ _)
              case s43 =>
                intro W hB K hK
                simp only [tellK, Act.put, List.setIfInBounds_toArray, List.set_cons_zero, List.set_cons_succ] at hK ⊢
                refine tell_not rfl ?_
                exact hK _ (Below.refl _ _)
              case s44 =>
                intro W hB K hK
                simp only [tellK, Act.put, List.setIfInBounds_toArray, List.set_cons_zero, List.set_cons_succ] at hK ⊢
                refine tell_do rfl ?_
                obtain ⟨c0, c1, c2, c3, c4, c5⟩ := cells6 (HP.below hB)
                go_simp
                exact hK _ (Below.refl _ _)
              case s45 =>
                intro W hB K hK
                simp only [tellK, Act.put, List.setIfInBounds_toArray, List.set_cons_zero, List.set_cons_succ] at hK ⊢
                refine tell_do rfl ?_
                obtain ⟨c0, c1, c2, c3, c4, c5⟩ := cells6 (HP.below hB)
                go_simp
                exact hK _ (Below.refl _ _)
              case s46 =>
                intro W hB K hK
                simp only [tellK, Act.put, List.setIfInBounds_toArray, List.set_cons_zero, List.set_cons_succ] at hK ⊢
                refine tell_do rfl ?_
                obtain ⟨c0, c1, c2, c3, c4, c5⟩ := cells6 (HP.below hB)
                go_simp
                exact hK _ (Below.refl _ _)
              case s47 =>
                intro W hB K hK
                simp only [tellK, Act.put, List.setIfInBounds_toArray, List.set_cons_zero, List.set_cons_succ] at hK ⊢
                refine tell_do rfl ?_
                obtain ⟨c0, c1, c2, c3, c4, c5⟩ := cells6 (HP.below hB)
                go_simp
                go_at_call 40; refine (alive37_c _).mono ?_; rintro e W9 ⟨rfl, g9⟩; exact hK _ g9
              case s48 =>
                intro W hB K hK
                simp only [tellK, Act.put, List.setIfInBounds_toArray, List.set_cons_zero, List.set_cons_succ] at hK ⊢
                refine tell_do rfl ?_
                obtain ⟨c0, c1, c2, c3, c4, c5⟩ := cells6 (HP.below hB)
                go_simp
                exact hK _ (Below.refl _ _)
              case s49 =>
                intro W hB K hK
                simp only [tellK, Act.put, List.setIfInBounds_toArray, List.set_cons_zero, List.set_cons_succ] at hK ⊢
                refine tell_do rfl ?_
                obtain ⟨c0, c1, c2, c3, c4, c5⟩ := cells6 (HP.below hB)
                go_simp
                exact hK _ (Below.refl _ _)
              case hQ =>
                intro W hB
                simp only [tellGo, sayAt, List.getD_cons_zero, List.getD_cons_succ, Act.put, List.setIfInBounds_toArray, List.set_cons_zero, List.set_cons_succ]
                have hBo := bt_ hBo hB
                clear ra rb hu hs hB
                go_wp2
                go_ret
                exact ⟨rfl, hBo⟩
            | true =>
              have hf2 := Lib.hid (help_free h htb hsT)
              obtain ⟨t3, t4⟩ := ch_hyps h hsT htb
              clear h
              clear hdb htb
              refine wp_region_tell [.v (.bool true), .v (.bool false), .v (.bool false), .v (za), .v (.slice B s.length d), .v (.bool true), .v (.bool true), .v (.bool true), .v (.bool true), .v (.bool false), .v (.bool false), .v (zb), .v (.int .i64 (1 : Int)), .p (isLit wB (1 : Int)), .v (.slice B s.length d), .p (isI ((1 : Int) :: s)), .v (.bool true), .v (.bool true), .v (.bool true), .v (undef), .v (undef), .v (undef), .v (undef), .v (undef), .v (undef), .v (undef), .v (undef), .v (.bool true), .v (.bool true), .v (.bool true), .v (.bool true), .v (.bool false), .v (.bool false), .v (zb), .v (.int .i64 (1 : Int)), .p (isI [(1 : Int)]), .p (isI (helpsL p l (1 : Int))), .v (.int .i64 ((helpsL p l (1 : Int)).length : Nat)), .v (.pointer (some ⟨w.heap.size, 1, none⟩)), .v (.int .i64 p.T), .v (.pointer (some ⟨w.heap.size, 2, none⟩)), .v (.int .i64 p.L), .v (.int .i64 (p.T + p.L)), .v (.bool true), .v (.bool true), .v (.bool true), .v (.bool true), .v (.bool true), .v (.bool true), .v (.bool true)] [([], none), ([(0, some 47)], none), ([(1, some 48)], none), ([(2, some 49)], some (some 49, false)), ([(2, some 49)], some (some 49, false)), ([(2, some 49), (3, some 50), (4, some 51)], some (some 49, false)), ([(2, some 49), (5, some 52)], none), ([(6, some 53)], none), ([(7, some 54)], some (some 54, true)), ([(7, some 54), (8, some 55)], some (some 54, true)), ([(7, some 54), (9, some 56)], some (some 54, true)), ([(10, some 57)], some (some 57, false)), ([(10, some 57)], some (some 57, false)), ([(10, some 57), (12, some 59)], some (some 57, false)), ([(10, some 57)], some (some 57, false)), ([(10, some 57), (13, some 60), (14, some 61)], some (some 57, false)), ([(10, some 57), (11, some 58), (15, some 62)], some (some 57, false)), ([(7, some 54), (10, some 57), (16, some 63)], some (some 54, true)), ([(7, some 54), (17, some 64)], some (some 54, true)), ([(18, some 65)], some (some 65, false)), ([(18, some 65), (19, some 66)], some (some 65, false)), ([(18, some 65)], some (some 65, false)), ([(18, some 65), (21, some 68)], some (some 65, false)), ([(18, some 65)], some (some 65, false)), ([(18, some 65), (23, some 70)], some (some 65, false)), ([(18, some 65), (22, some 69), (24, some 71)], some (some 65, false)), ([(18, some 65), (20, some 67), (25, some 72)], some (some 65, false)), ([(7, some 54), (18, some 65), (26, some 73)], some (some 54, true)), ([(7, some 54), (27, some 74)], none), ([(28, some 75)], none), ([(29, some 76)], some (some 76, true)), ([(29, some 76), (30, some 77)], some (some 76, true)), ([(29, some 76), (31, some 78)], some (some 76, true)), ([(32, some 79)], some (some 79, false)), ([(32, some 79)], some (some 79, false)), ([(32, some 79), (34, some 81)], some (some 79, false)), ([(32, some 79), (33, some 80), (35, some 82)], some (some 79, false)), ([(32, some 79), (36, some 83)], some (some 79, false)), ([(32, some 79)], some (some 79, false)), ([(32, some 79), (38, some 85)], some (some 79, false)), ([(32, some 79)], some (some 79, false)), ([(32, some 79), (40, some 87)], some (some 79, false)), ([(32, some 79), (39, some 86), (41, some 88)], some (some 79, false)), ([(32, some 79), (37, some 84), (42, some 89)], some (some 79, false)), ([(29, some 76), (32, some 79), (43, some 90)], some (some 76, true)), ([(29, some 76), (44, some 91)], none), ([(45, some 92)], none), ([(46, some 93)], some (some 93, true)), ([(46, some 93), (47, some 94)], none), ([(48, some 95)], none)] [(0, some 47), (1, some 48), (2, some 49), (3, some 50), (4, some 51), (5, some 52), (6, some 53), (7, some 54), (8, some 55), (9, some 56), (10, some 57), (11, some 58), (12, some 59), (13, some 60), (14, some 61), (15, some 62), (16, some 63), (17, some 64), (18, some 65), (19, some 66), (20, some 67), (21, some 68), (22, some 69), (23, some 70), (24, some 71), (25, some 72), (26, some 73), (27, some 74), (28, some 75), (29, some 76), (30, some 77), (31, some 78), (32, some 79), (33, some 80), (34, some 81), (35, some 82), (36, some 83), (37, some 84), (38, some 85), (39, some 86), (40, some 87), (41, some 88), (42, some 89), (43, some 90), (44, some 91), (45, some 92), (46, some 93), (47, some 94), (48, some 95), (49, some 6)] (by kernel_rfl) (by kernel_rfl) (by kernel_rfl) (by kernel_rfl) (by exact ⟨trivial, trivial, trivial, trivial, trivial, trivial, trivial, trivial, trivial, trivial, trivial, trivial, trivial, last_Lit _ _, trivial, last_I _, trivial, trivial, trivial, trivial, trivial, trivial, trivial, trivial, trivial, trivial, trivial, trivial, trivial, trivial, trivial, trivial, trivial, trivial, trivial, last_I _, last_I _, trivial, trivial, trivial, trivial, trivial, trivial, trivial, trivial, trivial, trivial, trivial, trivial, trivial, trivial⟩) ⟨?s0, ?s1, ?s2, ?s3, ?s4, ?s5, ?s6, ?s7, ?s8, ?s9, ?s10, ?s11, ?s12, ?s13, ?s14, ?s15, ?s16, ?s17, ?s18, ?s19, ?s20, ?s21, ?s22, ?s23, ?s24, ?s25, ?s26, ?s27, ?s28, ?s29, ?s30, ?s31, ?s32, ?s33, ?s34, ?s35, ?s36, ?s37, ?s38, ?s39, ?s40, ?s41, ?s42, ?s43, ?s44, ?s45, ?s46, ?s47, ?s48, ?s49, trivial⟩ ?hQ
              case s0 =>
                intro W hB K hK
                simp only [tellK, Act.put, List.setIfInBounds_toArray, List.set_cons_zero, List.set_cons_succ] at hK ⊢
                refine tell_do rfl ?_
                obtain ⟨c0, c1, c2, c3, c4, c5⟩ := cells6 (HP.below hB)
                go_simp
                exact hK _ (Below.refl _ _)
              case s1 =>
                intro W hB K hK
                simp only [tellK, Act.put, List.setIfInBounds_toArray, List.set_cons_zero, List.set_cons_succ] at hK ⊢
                refine tell_do rfl ?_
                obtain ⟨c0, c1, c2, c3, c4, c5⟩ := cells6 (HP.below hB)
                go_simp
                exact hK _ (Below.refl _ _)
              case s2 =>
                intro W hB K hK
                simp only [tellK, Act.put, List.setIfInBounds_toArray, List.set_cons_zero, List.set_cons_succ] at hK ⊢
                refine tell_do rfl ?_
                obtain ⟨c0, c1, c2, c3, c4, c5⟩ := cells6 (HP.below hB)
                go_simp
                exact hK _ (Below.refl _ _)
              case s3 =>
                intro W hB K hK
                simp only [tellK, Act.put, List.setIfInBounds_toArray, List.set_cons_zero, List.set_cons_succ] at hK ⊢
                refine tell_do rfl ?_
                obtain ⟨c0, c1, c2, c3, c4, c5⟩ := cells6 (HP.below hB)
                go_simp
                exact hK _ (Below.refl _ _)
              case s4 =>
                intro W hB K hK
                simp only [tellK, Act.put, List.setIfInBounds_toArray, List.set_cons_zero, List.set_cons_succ] at hK ⊢
                refine tell_do rfl ?_
                obtain ⟨c0, c1, c2, c3, c4, c5⟩ := cells6 (HP.below hB)
                go_simp
                exact hK _ (Below.refl _ _)
              case s5 =>
                intro W hB K hK
                simp only [tellK, Act.put, List.setIfInBounds_toArray, List.set_cons_zero, List.set_cons_succ] at hK ⊢
                refine tell_do rfl ?_
                obtain ⟨c0, c1, c2, c3, c4, c5⟩ := cells6 (HP.below hB)
                go_simp
                go_at_call 43; refine (free_c _ _ (dealL p l) s _ (ra.out.below hB) (hs.out.below hB) hf1.out.1 hf1.out.2.1 hf1.out.2.2).mono ?_; rintro e W9 ⟨rfl, g9⟩; exact hK _ g9
              case s6 =>
                intro W hB K hK
                simp only [tellK, Act.put, List.setIfInBounds_toArray, List.set_cons_zero, List.set_cons_succ] at hK ⊢
                refine tell_do rfl ?_
                obtain ⟨c0, c1, c2, c3, c4, c5⟩ := cells6 (HP.below hB)
                go_simp
                exact hK _ (Below.refl _ _)
              case s7 =>
                intro W hB K hK
                simp only [tellK, Act.put, List.setIfInBounds_toArray, List.set_cons_zero, List.set_cons_succ] at hK ⊢
                refine tell_do rfl ?_
                obtain ⟨c0, c1, c2, c3, c4, c5⟩ := cells6 (HP.below hB)
                go_simp
                exact hK _ (Below.refl _ _)
              case s8 =>
                intro W hB K hK
                simp only [tellK, Act.put, List.setIfInBounds_toArray, List.set_cons_zero, List.set_cons_succ] at hK ⊢
                refine tell_do rfl ?_
                obtain ⟨c0, c1, c2, c3, c4, c5⟩ := cells6 (HP.below hB)
                go_simp
                exact hK _ (Below.refl _ _)
              case s9 =>
                intro W hB K hK
                simp only [tellK, Act.put, List.setIfInBounds_toArray, List.set_cons_zero, List.set_cons_succ] at hK ⊢
                refine tell_do rfl ?_
                obtain ⟨c0, c1, c2, c3, c4, c5⟩ := cells6 (HP.below hB)
                go_simp
                exact hK _ (Below.refl _ _)
              case s10 =>
                intro W hB K hK
                simp only [tellK, Act.put, List.setIfInBounds_toArray, List.set_cons_zero, List.set_cons_succ] at hK ⊢
                refine tell_do rfl ?_
                obtain ⟨c0, c1, c2, c3, c4, c5⟩ := cells6 (HP.below hB)
                go_simp
                exact hK _ (Below.refl _ _)
              case s11 =>
                intro W hB K hK
                simp only [tellK, Act.put, List.setIfInBounds_toArray, List.set_cons_zero, List.set_cons_succ] at hK ⊢
                refine tell_do rfl ?_
                obtain ⟨c0, c1, c2, c3, c4, c5⟩ := cells6 (HP.below hB)
                go_simp
                exact hK _ (Below.refl _ _)
              case s12 =>
                intro W hB K hK
                simp only [tellK, Act.put, List.setIfInBounds_toArray, List.set_cons_zero, List.set_cons_succ] at hK ⊢
                refine tell_do rfl ?_
                obtain ⟨c0, c1, c2, c3, c4, c5⟩ := cells6 (HP.below hB)
                go_simp
                exact hK _ (Below.refl _ _)
              case s13 =>
                intro W hB K hK
                simp only [tellK, Act.put, List.setIfInBounds_toArray, List.set_cons_zero, List.set_cons_succ] at hK ⊢
                refine tell_do rfl ?_
                obtain ⟨c0, c1, c2, c3, c4, c5⟩ := cells6 (HP.below hB)
                go_simp
                exact hK _ _ ⟨W.heap.size, rfl, lit_ownI [(1 : Int)] #[.int .i64 (1 : Int)] rfl 1 rfl (by decide) hB.size⟩ (alloc_b _ _)
              case s14 =>
                intro W hB K hK
                simp only [tellK, Act.put, List.setIfInBounds_toArray, List.set_cons_zero, List.set_cons_succ] at hK ⊢
                refine tell_do rfl ?_
                obtain ⟨c0, c1, c2, c3, c4, c5⟩ := cells6 (HP.below hB)
                go_simp
                exact hK _ (Below.refl _ _)
              case s15 =>
                intro W hB v13 h13 K hK
                simp only [tellK, Act.put, List.setIfInBounds_toArray, List.set_cons_zero, List.set_cons_succ] at hK ⊢
                refine tell_do rfl ?_
                obtain ⟨c0, c1, c2, c3, c4, c5⟩ := cells6 (HP.below hB)
                obtain ⟨g, rfl, ho⟩ := h13; refine wp_app_lit (w0 := wB) (.tmp 60) (.tmp 61) rfl rfl rfl ho hB (hs.out.below hB) hsl.out ?_; intro v1 W1 q1 q2; exact hK _ _ q1.rk q2
              case s16 =>
                intro W hB v15 h15 K hK
                replace h15 : Ri W v15 ((1 : Int) :: s) := h15
                simp only [tellK, Act.put, List.setIfInBounds_toArray, List.set_cons_zero, List.set_cons_succ] at hK ⊢
                refine tell_do rfl ?_
                obtain ⟨c0, c1, c2, c3, c4, c5⟩ := cells6 (HP.below hB)
                go_simp
                go_at_call 43; refine (free_c _ _ (helpsL p l (1 : Int)) ((1 : Int) :: s) _ (rb.out.below hB) h15 hf2.out.1 hf2.out.2.1 hf2.out.2.2.1).mono ?_; rintro e W9 ⟨rfl, g9⟩; exact hK _ g9
              case s17 =>
                intro W hB K hK
                simp only [tellK, Act.put, List.setIfInBounds_toArray, List.set_cons_zero, List.set_cons_succ] at hK ⊢
                refine tell_do rfl ?_
                obtain ⟨c0, c1, c2, c3, c4, c5⟩ := cells6 (HP.below hB)
                go_simp
                exact hK _ (Below.refl _ _)
              case s18 =>
                intro W hB K hK
                simp only [tellK, Act.put, List.setIfInBounds_toArray, List.set_cons_zero, List.set_cons_succ] at hK ⊢
                refine tell_do rfl ?_
                obtain ⟨c0, c1, c2, c3, c4, c5⟩ := cells6 (HP.below hB)
                go_simp
                exact hK _ (Below.refl _ _)
              case s19 =>
                intro W hB K hK
                simp only [tellK, Act.put, List.setIfInBounds_toArray, List.set_cons_zero, List.set_cons_succ] at hK ⊢
                refine tell_not rfl ?_
                exact hK _ (Below.refl _ _)
              case s20 =>
                intro W hB K hK
                simp only [tellK, Act.put, List.setIfInBounds_toArray, List.set_cons_zero, List.set_cons_succ] at hK ⊢
                refine tell_not rfl ?_
                exact hK _ (Below.refl _ _)
              case s21 =>
                intro W hB K hK
                simp only [tellK, Act.put, List.setIfInBounds_toArray, List.set_cons_zero, List.set_cons_succ] at hK ⊢
                refine tell_not rfl ?_
                exact hK _ (Below.refl _ _)
              case s22 =>
                intro W hB K hK
                simp only [tellK, Act.put, List.setIfInBounds_toArray, List.set_cons_zero, List.set_cons_succ] at hK ⊢
                refine tell_not rfl ?_
                exact hK _ (Below.refl _ _)
              case s23 =>
                intro W hB K hK
                simp only [tellK, Act.put, List.setIfInBounds_toArray, List.set_cons_zero, List.set_cons_succ] at hK ⊢
                refine tell_not rfl ?_
                exact hK _ (Below.refl _ _)
              case s24 =>
                intro W hB K hK
                simp only [tellK, Act.put, List.setIfInBounds_toArray, List.set_cons_zero, List.set_cons_succ] at hK ⊢
                refine tell_not rfl ?_
                exact hK _ (Below.refl _ _)
              case s25 =>
                intro W hB K hK
                simp only [tellK, Act.put, List.setIfInBounds_toArray, List.set_cons_zero, List.set_cons_succ] at hK ⊢
                refine tell_not rfl ?_
                exact hK _ (Below.refl _ _)
              case s26 =>
                intro W hB K hK
                simp only [tellK, Act.put, List.setIfInBounds_toArray, List.set_cons_zero, List.set_cons_succ] at hK ⊢
                refine tell_not rfl ?_
                exact hK _ (Below.refl _ _)
              case s27 =>
                intro W hB K hK
                simp only [tellK, Act.put, List.setIfInBounds_toArray, List.set_cons_zero, List.set_cons_succ] at hK ⊢
                refine tell_do rfl ?_
                obtain ⟨c0, c1, c2, c3, c4, c5⟩ := cells6 (HP.below hB)
                go_simp
                exact hK _ (Below.refl _ _)
              case s28 =>
                intro W hB K hK
                simp only [tellK, Act.put, List.setIfInBounds_toArray, List.set_cons_zero, List.set_cons_succ] at hK ⊢
                refine tell_do rfl ?_
                obtain ⟨c0, c1, c2, c3, c4, c5⟩ := cells6 (HP.below hB)
                go_simp
                exact hK _ (Below.refl _ _)
              case s29 =>
                intro W hB K hK
                simp only [tellK, Act.put, List.setIfInBounds_toArray, List.set_cons_zero, List.set_cons_succ] at hK ⊢
                refine tell_do rfl ?_
                obtain ⟨c0, c1, c2, c3, c4, c5⟩ := cells6 (HP.below hB)
                go_simp
                exact hK _ (Below.refl _ _)
              case s30 =>
                intro W hB K hK
                simp only [tellK, Act.put, List.setIfInBounds_toArray, List.set_cons_zero, List.set_cons_succ] at hK ⊢
                refine tell_do rfl ?_
                obtain ⟨c0, c1, c2, c3, c4, c5⟩ := cells6 (HP.below hB)
                go_simp
                exact hK _ (Below.refl _ _)
              case s31 =>
                intro W hB K hK
                simp only [tellK, Act.put, List.setIfInBounds_toArray, List.set_cons_zero, List.set_cons_succ] at hK ⊢
                refine tell_do rfl ?_
                obtain ⟨c0, c1, c2, c3, c4, c5⟩ := cells6 (HP.below hB)
                go_simp
                exact hK _ (Below.refl _ _)
              case s32 =>
                intro W hB K hK
                simp only [tellK, Act.put, List.setIfInBounds_toArray, List.set_cons_zero, List.set_cons_succ] at hK ⊢
                refine tell_do rfl ?_
                obtain ⟨c0, c1, c2, c3, c4, c5⟩ := cells6 (HP.below hB)
                go_simp
                exact hK _ (Below.refl _ _)
              case s33 =>
                intro W hB K hK
                simp only [tellK, Act.put, List.setIfInBounds_toArray, List.set_cons_zero, List.set_cons_succ] at hK ⊢
                refine tell_do rfl ?_
                obtain ⟨c0, c1, c2, c3, c4, c5⟩ := cells6 (HP.below hB)
                go_simp
                exact hK _ (Below.refl _ _)
              case s34 =>
                intro W hB K hK
                simp only [tellK, Act.put, List.setIfInBounds_toArray, List.set_cons_zero, List.set_cons_succ] at hK ⊢
                refine tell_do rfl ?_
                obtain ⟨c0, c1, c2, c3, c4, c5⟩ := cells6 (HP.below hB)
                go_simp
                exact hK _ (Below.refl _ _)
              case s35 =>
                intro W hB K hK
                simp only [tellK, Act.put, List.setIfInBounds_toArray, List.set_cons_zero, List.set_cons_succ] at hK ⊢
                refine tell_do rfl ?_
                obtain ⟨c0, c1, c2, c3, c4, c5⟩ := cells6 (HP.below hB)
                go_simp
                exact hK _ _ (lit_i W [(1 : Int)] #[.int .i64 (1 : Int)] 3 1 1 rfl rfl (by decide) (by decide)) (alloc_b _ _)
              case s36 =>
                intro W hB v35 h35 K hK
                replace h35 : Ri W v35 [(1 : Int)] := h35
                simp only [tellK, Act.put, List.setIfInBounds_toArray, List.set_cons_zero, List.set_cons_succ] at hK ⊢
                refine tell_do rfl ?_
                obtain ⟨c0, c1, c2, c3, c4, c5⟩ := cells6 (HP.below hB)
                go_simp
                go_at_call 44; refine (rest_c _ _ (helpsL p l (1 : Int)) [(1 : Int)] _ (rb.out.below hB) h35 hf2.out.1).mono ?_; rintro e W9 ⟨z, r, rfl, hz, g9, hr⟩; rw [hf2.out.2.2.2.1 r hr] at hz; exact hK _ _ hz.rk g9
              case s37 =>
                intro W hB v36 h36 K hK
                replace h36 : Ri W v36 (helpsL p l (1 : Int)) := h36
                simp only [tellK, Act.put, List.setIfInBounds_toArray, List.set_cons_zero, List.set_cons_succ] at hK ⊢
                refine tell_do rfl ?_
                obtain ⟨c0, c1, c2, c3, c4, c5⟩ := cells6 (HP.below hB)
                obtain ⟨A9, c9, rfl⟩ := rk_form h36; go_simp; exact hK _ (Below.refl _ _)
              case s38 =>
                intro W hB K hK
                simp only [tellK, Act.put, List.setIfInBounds_toArray, List.set_cons_zero, List.set_cons_succ] at hK ⊢
                refine tell_do rfl ?_
                obtain ⟨c0, c1, c2, c3, c4, c5⟩ := cells6 (HP.below hB)
                go_simp
                exact hK _ (Below.refl _ _)
              case s39 =>
                intro W hB K hK
                simp only [tellK, Act.put, List.setIfInBounds_toArray, List.set_cons_zero, List.set_cons_succ] at hK ⊢
                refine tell_do rfl ?_
                obtain ⟨c0, c1, c2, c3, c4, c5⟩ := cells6 (HP.below hB)
                go_simp
                exact hK _ (Below.refl _ _)
              case s40 =>
                intro W hB K hK
                simp only [tellK, Act.put, List.setIfInBounds_toArray, List.set_cons_zero, List.set_cons_succ] at hK ⊢
                refine tell_do rfl ?_
                obtain ⟨c0, c1, c2, c3, c4, c5⟩ := cells6 (HP.below hB)
                go_simp
                exact hK _ (Below.refl _ _)
              case s41 =>
                intro W hB K hK
                simp only [tellK, Act.put, List.setIfInBounds_toArray, List.set_cons_zero, List.set_cons_succ] at hK ⊢
                refine tell_do rfl ?_
                obtain ⟨c0, c1, c2, c3, c4, c5⟩ := cells6 (HP.below hB)
                go_simp
                exact hK _ (Below.refl _ _)
              case s42 =>
                intro W hB K hK
                simp only [tellK, Act.put, List.setIfInBounds_toArray, List.set_cons_zero, List.set_cons_succ] at hK ⊢
                refine tell_do rfl ?_
                obtain ⟨c0, c1, c2, c3, c4, c5⟩ := cells6 (HP.below hB)
                go_simp
                exact hK _ (Below.refl _ _)
              case s43 =>
                intro W hB K hK
                simp only [tellK, Act.put, List.setIfInBounds_toArray, List.set_cons_zero, List.set_cons_succ] at hK ⊢
                refine tell_do rfl ?_
                obtain ⟨c0, c1, c2, c3, c4, c5⟩ := cells6 (HP.below hB)
                go_simp
                exact hK _ (Below.refl _ _)
              case s44 =>
                intro W hB K hK
                simp only [tellK, Act.put, List.setIfInBounds_toArray, List.set_cons_zero, List.set_cons_succ] at hK ⊢
                refine tell_do rfl ?_
                obtain ⟨c0, c1, c2, c3, c4, c5⟩ := cells6 (HP.below hB)
                go_simp
                exact hK _ (Below.refl _ _)
              case s45 =>
                intro W hB K hK
                simp only [tellK, Act.put, List.setIfInBounds_toArray, List.set_cons_zero, List.set_cons_succ] at hK ⊢
                refine tell_do rfl ?_
                obtain ⟨c0, c1, c2, c3, c4, c5⟩ := cells6 (HP.below hB)
                go_simp
                exact hK _ (Below.refl _ _)
              case s46 =>
                intro W hB K hK
                simp only [tellK, Act.put, List.setIfInBounds_toArray, List.set_cons_zero, List.set_cons_succ] at hK ⊢
                refine tell_do rfl ?_
                obtain ⟨c0, c1, c2, c3, c4, c5⟩ := cells6 (HP.below hB)
                go_simp
                exact hK _ (Below.refl _ _)
              case s47 =>
                intro W hB K hK
                simp only [tellK, Act.put, List.setIfInBounds_toArray, List.set_cons_zero, List.set_cons_succ] at hK ⊢
                refine tell_do rfl ?_
                obtain ⟨c0, c1, c2, c3, c4, c5⟩ := cells6 (HP.below hB)
                go_simp
                go_at_call 40; refine (alive37_c _).mono ?_; rintro e W9 ⟨rfl, g9⟩; exact hK _ g9
              case s48 =>
                intro W hB K hK
                simp only [tellK, Act.put, List.setIfInBounds_toArray, List.set_cons_zero, List.set_cons_succ] at hK ⊢
                refine tell_do rfl ?_
                obtain ⟨c0, c1, c2, c3, c4, c5⟩ := cells6 (HP.below hB)
                go_simp
                exact hK _ (Below.refl _ _)
              case s49 =>
                intro W hB K hK
                simp only [tellK, Act.put, List.setIfInBounds_toArray, List.set_cons_zero, List.set_cons_succ] at hK ⊢
                refine tell_do rfl ?_
                obtain ⟨c0, c1, c2, c3, c4, c5⟩ := cells6 (HP.below hB)
                go_simp
                exact hK _ (Below.refl _ _)
              case hQ =>
                intro W hB v13 h13 v15 h15 v35 h35 v36 h36
                replace h15 : Ri W v15 ((1 : Int) :: s) := h15
                replace h35 : Ri W v35 [(1 : Int)] := h35
                replace h36 : Ri W v36 (helpsL p l (1 : Int)) := h36
                simp only [tellGo, sayAt, List.getD_cons_zero, List.getD_cons_succ, Act.put, List.setIfInBounds_toArray, List.set_cons_zero, List.set_cons_succ]
                have hBo := bt_ hBo hB
                clear ra rb hu hs hB
                go_wp2
                go_ret
                exact ⟨rfl, hBo⟩
  · refine (rRight_no p hi h _).mono ?_
    rintro e w1 ⟨rfl, h1⟩
    have hB := bt_ hB h1
    clear h
    go_wp2_with fail
    refine (alive37_c _).mono ?_
    rintro e wX ⟨rfl, hX⟩
    replace hB := bt_ hB hX
    go_wp2
    go_ret
    exact ⟨rfl, hB⟩
theorem ChooseUnseen_walk (w : World) (N : Int) (hN : -9223372036854775808 ≤ N ∧ N ≤ 9223372036854775807) (T : Int) (hT : -9223372036854775808 ≤ T ∧ T ≤ 9223372036854775807) (L : Int) (hL : -9223372036854775808 ≤ L ∧ L ≤ 9223372036854775807) (W : Int) (hW : -9223372036854775808 ≤ W ∧ W ≤ 9223372036854775807) (S : Int) (hS : -9223372036854775808 ≤ S ∧ S ≤ 9223372036854775807) (R : Int) (hR : -9223372036854775808 ≤ R ∧ R ≤ 9223372036854775807)
    (u : Value) (l : List Int) (hu : Ri w u l) (hq : ∀ y ∈ l, I64 y) (v : Value) (s : List Int) (hs : Ri w v s) (hq2 : ∀ y ∈ s, I64 y) :
   Calls Try.prog 9 #[.agg #[.int .i64 N, .int .i64 T, .int .i64 L, .int .i64 W, .int .i64 S, .int .i64 R], u, v] w fun e w' => e = .returned (.bool true) ∧ Below w.heap.size w w' :=
  ChooseUnseen_c ⟨N, T, L, W, S, R⟩ ⟨hN, hT, hL, hW, hS, hR⟩ u l v s w hu hs
end Go.Proofs.Ytacbenjfiabegaa
