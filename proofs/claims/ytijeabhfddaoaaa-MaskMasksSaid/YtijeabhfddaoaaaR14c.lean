/- The walks of the reference of layer 14: Over, Sized, Deal, Zero, Blind. -/
import Derived.Test.YtijeabhfddaoaaaR14b
import Derived.Test.YtijeabhfddaoaaaMc
import Derived.Test.YtijeabhfddaoaaaM10
import Derived.Test.YtijeabhfddaoaaaK8
namespace Go.Proofs.Ytijeabhfddaoaaa
set_option linter.unusedVariables false
open Go.RowKit Go.Proofs.YtijeabhfddaoaaaW.PrintWords Go.Proofs.Sh

theorem ob_grown {w0 w w1 : World} {g n c : Nat} {u : Option Nat} {l : List F} (h : Ob w0 w (.slice (some ⟨g, 0, none⟩) n c) l) (hg : w.grownBy w1 u) (hne : u ≠ some g) : Ob w0 w1 (.slice (some ⟨g, 0, none⟩) n c) l :=
  b_own (own_other (own_b h) hg (.inr (by simpa [Value.ownBlock] using fun e => hne e.symm)))
def szTo (l : List F) (n k : Nat) : List F := (List.range n).map fun i => if i < k then l.getD i 0 else 0
theorem szTo_len (l : List F) (n k : Nat) : (szTo l n k).length = n := by simp [szTo]
theorem szTo_at (l : List F) (n k i : Nat) (h : i < n) : (szTo l n k).getD i 0 = if i < k then l.getD i 0 else 0 := by simp [szTo, List.getD_eq_getElem?_getD, h]
theorem szTo_0 (l : List F) (n : Nat) : szTo l n 0 = List.replicate n 0 := by
  apply F.ext_at (by rw [szTo_len, List.length_replicate])
  intro j hj
  rw [szTo_len] at hj
  show (szTo l n 0).getD j 0 = _
  rw [szTo_at _ _ _ _ hj, if_neg (by omega)]
  simp [F.at_, List.getD_eq_getElem?_getD, hj]
theorem szTo_all (l : List F) (n : Nat) : szTo l n n = szd l n := by
  unfold szTo szd
  exact List.map_congr_left fun i hi => if_pos (List.mem_range.1 hi)
theorem szTo_set (l : List F) (n k : Nat) (h : k < n) : (szTo l n k).set k (F.at_ l k) = szTo l n (k + 1) := by
  apply F.ext_at (by rw [List.length_set, szTo_len, szTo_len])
  intro t ht
  rw [List.length_set, szTo_len] at ht
  rw [F.at_set _ _ _ (by rw [szTo_len]; exact h)]
  show (if t = k then _ else (szTo l n k).getD t 0) = (szTo l n (k + 1)).getD t 0
  rw [szTo_at _ _ _ _ ht, szTo_at _ _ _ _ ht]
  by_cases e : t = k
  · rw [if_pos e, if_pos (by omega), e]
  · rw [if_neg e]
    by_cases g1 : t < k
    · rw [if_pos g1, if_pos (by omega)]
    · rw [if_neg g1, if_neg (by omega)]
set_option maxRecDepth 100000 in
set_option maxHeartbeats 1600000 in
theorem rSized_c (v : Value) (l : List F) (n : Int) (w : World) (hv : Rb w v l) (h0 : 1 ≤ n) (hn : n ≤ 1000000) :
   Calls Try.prog 196 #[v, .int .i64 n] w fun e w' => ∃ z, e = .returned z ∧ Ob w w' z (szd l n.toNat) ∧ Below w.heap.size w w' := by
  obtain ⟨m, rfl⟩ : ∃ m : Nat, n = (m : Int) := ⟨n.toNat, by omega⟩
  have hR := Lib.hid (szTo_all l m)
  have hB := Below.refl w.heap.size w
  obtain ⟨A, c, rfl⟩ := rk_form hv
  go_enter Try.func196, Try.ntmps196
  go_wp2_with ((with_reducible refine gate_dst (N := 8) rfl ?_); refine mk_len kb rfl (N := 8) rfl 40 5 _ _ rfl _ rfl rfl Try.underlying40 (.int .u8 0) 1 infoB rfl Nat.one_pos (by decide) (0 : F) rfl ?h0 ?hl hB ?_; (case h0 => omega); (case hl => omega); intro v1 w1 ho hb hg)
  have hO := ho
  have hB := hb
  clear ho hb hg
  (try rw [Int.toNat_natCast] at hO)
  rw [← szTo_0 l m] at hO
  obtain ⟨g, cap, rfl, hg1, hg2⟩ := Ob.form hO (by rw [szTo_len]; omega)
  rw [szTo_len] at hO ⊢
  go_loopw [6] (fun i wr => ∃ k : Nat, k ≤ m ∧ i = .int .i64 k ∧ Ob w wr (.slice (some ⟨g, 0, none⟩) m cap) (szTo l m k) ∧ Below w.heap.size w wr) (fun i _ => m - (intOf i).toNat)
  case atStart => exact ⟨0, by omega, rfl, hO, hB⟩
  case round =>
    clear hO hB hg2
    obtain ⟨k, hk, rfl, hO, hB⟩ := hrel
    by_cases hlt : k < m
    · have hv := hv.below hB
      obtain ⟨c2, f2⟩ := hO.at k (by rw [szTo_len]; exact hlt)
      have hset := Lib.hid (szTo_set l m k hlt)
      have hs2 := fun x => Lib.hid (hO.set k x)
      obtain ⟨x, hx⟩ : ∃ x, x = F.at_ l k := ⟨_, rfl⟩
      rw [← hx] at hset
      replace hx := Lib.hid hx
      generalize (szTo l m k).getD k 0 = y at *
      go_wp2_with fail
      refine (rAt_c _ l _ k x rfl (by omega) hx.out.symm _ hv).mono ?_
      rintro e w_ ⟨rfl, rfl⟩
      go_wp2
      obtain ⟨hO2, hgr⟩ := (hs2 x).out
      rw [hset.out] at hO2
      exact ⟨⟨k + 1, by omega, by go_num, hO2, hB.grown hgr hB.size (fun k hk => by injection hk with hk; omega)⟩, by simp [intOf]; try omega⟩
    · obtain rfl : k = m := by omega
      go_wp2
      go_ret
      exact ⟨_, rfl, by rw [Int.toNat_natCast, ← hR.out]; exact hO, hB⟩
/-! ### Over -/
set_option maxRecDepth 100000 in
set_option maxHeartbeats 3200000 in
theorem rOver_few (v u : Value) (p q : List F) (w : World) (hv : Rb w v p) (hu : Rb w u q) (b1 : p.length ≤ 256) (hn : p.length < q.length) :
   Calls Try.prog 197 #[v, u] w fun e w' => e = .returned (.slice none 0 0) ∧ Below w.heap.size w w' := by
  have hL := lit_own (w0 := w) (W := w) [] #[] rfl 0 rfl (by decide) (Nat.le_refl _)
  have hB := below_alloc (Below.refl w.heap.size w) (.cells #[] 5)
  have hv2 := hv.below hB
  obtain ⟨A, c, rfl⟩ := rk_form hv
  obtain ⟨B, d, rfl⟩ := rk_form hu
  have hql := kb_len (rk_C hu)
  have t1 : decide ((p.length : Int) - (q.length : Int) + 1 < 1) = true := decide_eq_true (by omega)
  go_enter Try.func197, Try.ntmps197
  go_wp2_with (at_builtin; refine app_many (enc := bV) rfl (.tmp 11) (.tmp 12) 40 5 (.int .u8 0) 1 rfl Try.underlying40 infoB rfl (by decide) _ [] p _ rfl rfl hL hv2 hB ?hl ?_; (case hl => (simp; omega)); intro v1 w1 ho hb hg)
  go_ret
  exact ⟨rfl, hb⟩
set_option maxRecDepth 100000 in
set_option maxHeartbeats 3200000 in
theorem rOver_c (v u : Value) (p xs : List F) (w : World) (hv : Rb w v p) (hu : Rb w u (F.rt xs)) (b1 : p.length ≤ 256) :
   Calls Try.prog 197 #[v, u] w fun e w' => ∃ z, e = .returned z ∧ Ob w w' z (qts xs p) ∧ Below w.heap.size w w' := by
  by_cases hn : p.length < (F.rt xs).length
  · refine (rOver_few v u p _ w hv hu b1 hn).mono ?_
    rintro e w' ⟨rfl, hB⟩
    have : qts xs p = [] := List.eq_nil_of_length_eq_zero (by rw [qts_len]; rw [F.rt_len] at hn; omega)
    rw [this]
    exact ⟨_, rfl, Own.nil _ _ _ _, hB⟩
  have hxl : xs.length + 1 ≤ p.length := by rw [F.rt_len] at hn; omega
  obtain ⟨m, hm⟩ : ∃ m, m = xs.length := ⟨_, rfl⟩
  obtain ⟨n, hnn⟩ : ∃ n, n = p.length - xs.length := ⟨_, rfl⟩
  have htop := Lib.hid (fun j (hj : j < n) => lrest_qts p xs b1 (by omega) j (by omega))
  have hgl : Hid ((qts xs p).length = n) := Lib.hid (by rw [qts_len]; exact hnn.symm)
  have hql : (F.rt xs).length = m + 1 := by rw [F.rt_len, hm]
  rw [← hnn] at htop
  rw [hql] at htop
  have hpl : p.length = n + m := by omega
  have hn1 : 1 ≤ n := by omega
  have hnm : n + m ≤ 256 := by omega
  clear hm hnn hxl hn
  generalize F.rt xs = q at *
  generalize qts xs p = G at *
  have hL := lit_own (w0 := w) (W := w) [] #[] rfl 0 rfl (by decide) (Nat.le_refl _)
  have hB := below_alloc (Below.refl w.heap.size w) (.cells #[] 5)
  have hv2 := hv.below hB
  obtain ⟨A, c, rfl⟩ := rk_form hv
  obtain ⟨B, d, rfl⟩ := rk_form hu
  rw [hpl] at hv hv2 ⊢
  rw [hql] at hu ⊢
  have t1 : decide (((n + m : Nat) : Int) - ((m + 1 : Nat) : Int) + 1 < 1) = false := decide_eq_false (by omega)
  have hap : ([] : List F).length + p.length ≤ 140737488355328 := by simp; omega
  have hnil : ([] : List F) ++ p = p := List.nil_append p
  replace hql := Lib.hid hql
  replace hpl := Lib.hid hpl
  go_enter Try.func197, Try.ntmps197
  go_wp2_with (first | (at_builtin; refine app_many (enc := bV) rfl (.tmp 11) (.tmp 12) 40 5 (.int .u8 0) 1 rfl Try.underlying40 infoB rfl (by decide) _ [] p _ rfl rfl hL hv2 hB ?hl ?_; (case hl => omega); intro v1 wa ho hb hg) | ((with_reducible refine gate_dst (N := 23) rfl ?_); refine halt ?_) | fail)
  refine ⟨?_⟩
  rw [hnil] at ho
  obtain ⟨g1, cap1, rfl, _, hg1⟩ := Ob.form (w0 := w) ho (by have := hpl.out; omega)
  rw [hpl.out] at ho ⊢
  replace ho : Ob w wa _ p := ho
  have hP := ho
  have hBw := hb
  clear hL hv2 ho hb hg hnil hap hB
  go_wp2_with ((with_reducible refine gate_dst (N := 23) rfl ?_); refine mk_len kb rfl (N := 23) rfl 40 5 _ _ rfl _ rfl rfl Try.underlying40 (.int .u8 0) 1 infoB rfl Nat.one_pos (by decide) (0 : F) rfl ?h0 ?hl (Below.refl wa.heap.size wa) ?_; (case h0 => omega); (case hl => omega); intro v1 w1 ho hb hg)
  have hO : Ob wa _ _ _ := ho
  have hb1 := hb
  rw [show ((n : Int) + (m : Int) - ((m : Int) + 1) + 1).toNat = n from by omega] at hO
  have hgs := gTo_start G
  rw [hgl.out] at hgs
  rw [← hgs] at hO
  have hgs := Lib.hid hgs
  obtain ⟨g2, cap2, rfl, hg2, _⟩ := Ob.form hO (by rw [gTo_len, hgl.out]; omega)
  rw [gTo_len, hgl.out] at hO ⊢
  have hne : Hid (g1 ≠ g2) := Lib.hid (by omega)
  have hP := ob_grown hP hg (by simp)
  have hO := hO.lower hBw
  have hB := bt_ hBw hb1
  have hge : Hid (w.heap.size ≤ g2) := Lib.hid (by have := hBw.size; omega)
  have hge1 : Hid (w.heap.size ≤ g1) := Lib.hid (by assumption)
  clear ho hb hg hb1 hBw hg1 hg2 hgs
  go_wp2_with fail
  go_loopw [8, 9, 10] (fun i _ _ wr => ∃ (k : Nat) (z : Int), k ≤ n ∧ i = .int .i64 z ∧ z = (k : Int) - 1 ∧ Ob w wr (.slice (some ⟨g1, 0, none⟩) (n + m) cap1) (lrest p q n (n - k)) ∧ Ob w wr (.slice (some ⟨g2, 0, none⟩) n cap2) (gTo G k) ∧ Below w.heap.size w wr) (fun i _ _ _ => (intOf i + 1).toNat)
  case atStart => exact ⟨n, _, by omega, rfl, by omega, by rw [Nat.sub_self]; exact hP, hO, hB⟩
  case round =>
    clear hO hB hP
    obtain ⟨k, z, hk, rfl, hz, hP, hO, hB⟩ := hrel
    cases k with
    | zero =>
      obtain rfl : z = -1 := hz
      go_wp2
      go_ret
      rw [gTo_0] at hO
      exact ⟨_, rfl, hO, hB⟩
    | succ t =>
      obtain rfl : z = (t : Int) := by omega
      clear hz
      obtain ⟨R, hR⟩ : ∃ R, R = lrest p q n (n - (t + 1)) := ⟨_, rfl⟩
      obtain ⟨x, hx⟩ : ∃ x, x = F.at_ G t := ⟨_, rfl⟩
      have hRl : R.length = n + m := by rw [hR, lrest_len, hpl.out]
      have hc : R.getD (t + m) 0 = x := by
        have := htop.out (n - (t + 1)) (by omega)
        rw [show n - 1 - (n - (t + 1)) = t by omega, show m + 1 - 1 = m by omega] at this
        rw [hR, hx]
        exact this
      have hnext : Hid (lpart q t x (m + 1) R = lrest p q n (n - t)) := Lib.hid (by
        rw [show n - t = (n - (t + 1)) + 1 by omega, lrest, show n - 1 - (n - (t + 1)) = t by omega, hql.out, ← hR, show m + 1 - 1 = m by omega]
        show _ = lpart q t (R.getD (t + m) 0) (m + 1) R
        rw [hc])
      obtain ⟨s, hs⟩ : ∃ s, s = t + m := ⟨_, rfl⟩
      rw [← hs] at hc
      rw [← hR] at hP
      obtain ⟨c2, f2⟩ := hP.at s (by omega)
      rw [hc] at c2
      obtain ⟨c3, f3⟩ := hO.at t (by rw [gTo_len, hgl.out]; omega)
      obtain ⟨hO2, hgr⟩ := hO.set t x
      have hst : (gTo G (t + 1)).set t x = gTo G t := by rw [hx]; exact gTo_set G t (by rw [hgl.out]; omega)
      rw [hst] at hO2
      have hP2 := ob_grown hP hgr (by have := hne.out; simpa using fun e => this e.symm)
      have hB2 := hB.grown hgr hB.size (fun k hk => by injection hk with hk; have := hge.out; omega)
      replace hP2 := Lib.hid hP2
      replace hO2 := Lib.hid hO2
      replace hB2 := Lib.hid hB2
      have hRl := Lib.hid hRl
      have htn : t < n := by omega
      have htz : (t : Int) < (n : Int) := by omega
      have u1 : IntKind.i64.wrap ((t : Int) + ((m : Int) + 1)) = (s : Int) + 1 := by rw [wrapI _ (by omega) (by omega)]; omega
      have hsn : (s : Int) < (n : Int) + (m : Int) := by omega
      clear hst hgr hc hs hR hx hP hO hB htop
      generalize (gTo G (t + 1)).getD t 0 = y0 at *
      go_wp2_with fail
      go_loopw [10] (fun i wr => ∃ k : Nat, k ≤ m + 1 ∧ i = .int .i64 k ∧ Ob w wr (.slice (some ⟨g1, 0, none⟩) (n + m) cap1) (lpart q t x k R) ∧ Ob w wr (.slice (some ⟨g2, 0, none⟩) n cap2) (gTo G t) ∧ Below w.heap.size w wr) (fun i _ => m + 1 - (intOf i).toNat)
      case atStart => exact ⟨0, by omega, rfl, by rw [lpart_0]; exact hP2.out, hO2.out, hB2.out⟩
      case round =>
        clear c2 f2 c3 f3
        obtain ⟨k2, hk2, rfl, hP, hO, hB⟩ := hrel
        by_cases hlt : k2 < m + 1
        · obtain ⟨ad, rfl, d0⟩ := kb_at (rk_C (hu.below hB)) k2 (by rw [hql.out]; exact hlt)
          obtain ⟨j2, hj2⟩ : ∃ j2, j2 = t + k2 := ⟨_, rfl⟩
          have hset := lpart_set q t x k2 R (by rw [hRl.out]; omega)
          rw [← hj2] at hset
          obtain ⟨c2, f2⟩ := hP.at j2 (by rw [lpart_len, hRl.out]; omega)
          have u2 : IntKind.i64.wrap ((t : Int) + (k2 : Int)) = (j2 : Int) := by rw [wrapI _ (by omega) (by omega)]; omega
          have hjn : (j2 : Int) < (n : Int) + (m : Int) := by omega
          have hset2 : (lpart q t x k2 R).set j2 ((lpart q t x k2 R).getD j2 0 + x * q.getD k2 0) = lpart q t x (k2 + 1) R := hset
          have hsetw := fun W2 (h : Ob w W2 (.slice (some ⟨g1, 0, none⟩) (n + m) cap1) (lpart q t x k2 R)) z => h.set j2 z
          generalize hy : (lpart q t x k2 R).getD j2 0 = y at *
          generalize q.getD k2 0 = b' at *
          have X1 := xor8 y (x * b')
          replace hset2 := Lib.hid hset2
          replace hsetw := Lib.hid hsetw
          clear hset hj2 hy
          go_wp2_with fail
          have hD : Drawn0 wr wr := Drawn0.refl _
          go_region_law (first
            | (go_simp; go_at_call 41; refine (rMul_c x b' _ _ _ rfl rfl).mono ?_; rintro e w6 ⟨rfl, rfl⟩)
            | fail)
          all_goals go_wp2
          all_goals
            have hP1 := hP.below (below_drew (Below.refl _ _))
            have hO1 := hO.below (below_drew (Below.refl _ _))
            have hB1 := below_drew hB
            obtain ⟨hP2, hgr⟩ := hsetw.out _ hP1 (y + x * b')
            rw [hset2.out] at hP2
            exact ⟨⟨k2 + 1, by omega, by go_num, hP2, ob_grown hO1 hgr (by have := hne.out; simpa using this), hB1.grown hgr hB1.size (fun k hk => by injection hk with hk; have := hge1.out; omega)⟩, by simp [intOf]; try omega⟩
        · obtain rfl : k2 = m + 1 := by omega
          rw [hnext.out] at hP
          go_wp2
          exact ⟨⟨t, _, by omega, rfl, by go_num, hP, hO, hB⟩, by simp [intOf]; try omega⟩
/-! ### Deal, Zero, Blind -/
set_option maxRecDepth 100000 in
set_option maxHeartbeats 3200000 in
theorem rZero14_c (p : Pl) (h : p.Ok) (v : Value) (s : List F) (w : World) (hs : Rb w v s) (b1 : s.length ≤ 256) :
   Calls Try.prog 146 #[planV p, v] w fun e w' => ∃ z, e = .returned z ∧ Ob w w' z (zeroM p s) ∧ Below w.heap.size w w' := by
  have hT : Hid (1 ≤ p.T ∧ p.T ≤ 1000000) := Lib.hid (by have := h.t; have := h.l; have := h.tl; have := h.wn; have := h.nl; omega)
  have hL : Hid ((secretsAt p).length ≤ 100000) := Lib.hid (by rw [secrets_len]; have := h.t; have := h.tl; have := h.wn; have := h.nl; omega)
  have hR : Hid (szd (qts (secretsAt p) s) p.T.toNat = zeroM p s) := Lib.hid rfl
  have HP := Blk.new w (planC p) 33
  have hB := below_alloc (Below.refl w.heap.size w) (.cells (planC p) 33)
  have hs := hs.below hB
  obtain ⟨c0, c1, c2, c3, c4, c5⟩ := cells6 HP
  go_enter Try.func146, Try.ntmps146
  go_wp2_with fail
  generalize w.alloc (.cells (planC p) 33) = w1 at *
  go_region_held3 (fun w' => w'.cell? ⟨w.heap.size, 0, none⟩ = some (.int .i64 p.N) ∧ w'.cell? ⟨w.heap.size, 1, none⟩ = some (.int .i64 p.T) ∧ w'.cell? ⟨w.heap.size, 2, none⟩ = some (.int .i64 p.L) ∧ w'.cell? ⟨w.heap.size, 3, none⟩ = some (.int .i64 p.W) ∧ w'.cell? ⟨w.heap.size, 4, none⟩ = some (.int .i64 p.S) ∧ w'.cell? ⟨w.heap.size, 5, none⟩ = some (.int .i64 p.R))
    (go_keep)
    (first
    | (go_at_call 66; refine (rSecrets_c p h _).mono ?_; rintro e w6 ⟨vS, rfl, sS, h6⟩; (repeat (first | replace h6 := ba h6 | replace h6 := buN h6 | replace h6 := bu h6)); have hs := hs.below h6; replace sS := sS.rk; (try replace h6 := bu h6); have HP := HP.below h6; obtain ⟨c0, c1, c2, c3, c4, c5⟩ := cells6 HP; have hB := bt_ hB h6)
    | (go_at_call 81; refine (rRoot_c _ (secretsAt p) _ sS hL.out).mono ?_; rintro e w6 ⟨vR, rfl, sR, h6⟩; (repeat (first | replace h6 := ba h6 | replace h6 := buN h6 | replace h6 := bu h6)); have hs := hs.below h6; replace sR := sR.rk; (try replace h6 := bu h6); have HP := HP.below h6; obtain ⟨c0, c1, c2, c3, c4, c5⟩ := cells6 HP; have hB := bt_ hB h6)
    | (go_at_call 197; refine (rOver_c _ _ s (secretsAt p) _ hs sR b1).mono ?_; rintro e w6 ⟨vQ, rfl, sQ, h6⟩; (repeat (first | replace h6 := ba h6 | replace h6 := buN h6 | replace h6 := bu h6)); replace sQ := sQ.rk; (try replace h6 := bu h6); have HP := HP.below h6; obtain ⟨c0, c1, c2, c3, c4, c5⟩ := cells6 HP; have hB := bt_ hB h6)
    | (go_at_call 196; refine (rSized_c _ _ p.T _ sQ hT.out.1 hT.out.2).mono ?_; rintro e w6 ⟨vZ, rfl, sZ, h6⟩; (have hB9 := hB); (repeat (first | replace h6 := ba h6 | replace h6 := buN h6 | replace h6 := bu h6)); (try replace h6 := bu h6); have HP := HP.below h6; obtain ⟨c0, c1, c2, c3, c4, c5⟩ := cells6 HP; have hB := bt_ hB h6)
    | fail)
  go_wp2
  go_ret
  exact ⟨_, rfl, by rw [← hR.out]; exact sZ.lower hB9, hB⟩
set_option maxRecDepth 100000 in
set_option maxHeartbeats 3200000 in
theorem rDeal14_c (p : Pl) (h : p.Ok) (hK : p.L < 255) (v u : Value) (d s : List F) (w : World) (hd : Rb w v d) (hs : Rb w u s) (b1 : s.length ≤ 256) :
   Calls Try.prog 145 #[planV p, v, u] w fun e w' => ∃ z, e = .returned z ∧ Ob w w' z (dealM p d s) ∧ Below w.heap.size w w' := by
  have hT : Hid (1 ≤ p.T ∧ p.T ≤ 1000000) := Lib.hid (by have := h.t; have := h.l; have := h.tl; have := h.wn; have := h.nl; omega)
  have hL : Hid (1 ≤ (secretsAt p).length ∧ (secretsAt p).length < 255) := Lib.hid (by rw [secrets_len]; have := h.l; omega)
  have hR : Hid (szd (qts (secretsAt p) (F.padd s (F.thr (secretsAt p) (szd d (secretsAt p).length) (secretsAt p).length))) p.T.toNat = dealM p d s) := Lib.hid rfl
  have hsz : Hid ((secretsAt p).length = (szd d (secretsAt p).length).length) := Lib.hid (szd_len _ _).symm
  have hnt := Lib.hid (F.nwt_thr (ys := szd d (secretsAt p).length) (secrets_nodup p h) hL.out.2)
  have htl : Hid ((F.thr (secretsAt p) (szd d (secretsAt p).length) (secretsAt p).length).length ≤ 1000000) := Lib.hid (by rw [F.thr_len]; have := hL.out; omega)
  have hpl : Hid ((F.padd s (F.thr (secretsAt p) (szd d (secretsAt p).length) (secretsAt p).length)).length ≤ 256) := Lib.hid (by rw [F.padd_len, F.thr_len]; have := hL.out; omega)
  have HP := Blk.new w (planC p) 33
  have hB := below_alloc (Below.refl w.heap.size w) (.cells (planC p) 33)
  have hs := hs.below hB
  have hd := hd.below hB
  obtain ⟨c0, c1, c2, c3, c4, c5⟩ := cells6 HP
  go_enter Try.func145, Try.ntmps145
  go_wp2_with fail
  refine (rSecrets_c p h _).mono ?_
  rintro e w1 ⟨vS, rfl, sS, h1⟩
  have HP := HP.below h1
  have hB := bt_ hB h1
  obtain ⟨c0, c1, c2, c3, c4, c5⟩ := cells6 HP
  have hd := hd.below h1
  have hs := hs.below h1
  clear h1
  replace sS := sS.rk
  obtain ⟨AS, nS, rfl⟩ := rk_form sS
  have hB0 := hB
  clear hB
  generalize hxs : secretsAt p = xs at *
  replace hxs := Lib.hid hxs
  go_wp2_with fail
  refine wp_region_say [(isB s), (isB xs), (isB d), (isB xs), (isV (.int .i64 (xs.length : Int))), (isB (szd d xs.length)), (isB (F.thr xs (szd d xs.length) xs.length)), (isB (F.padd s (F.thr xs (szd d xs.length) xs.length))), (isB xs), (isB (F.rt xs)), (isB (qts xs (F.padd s (F.thr xs (szd d xs.length) xs.length)))), (isV (.pointer (some ⟨w.heap.size, 1, none⟩))), (isV (.int .i64 p.T)), (isO w (dealM p d s)), (isO w (dealM p d s))] [(0, some 10), (1, some 11), (2, some 12), (3, some 13), (4, some 14), (5, some 15), (6, some 16), (7, some 17), (8, some 18), (9, some 19), (10, some 20), (11, some 21), (12, some 22), (13, some 23), (14, some 6)] (by kernel_rfl) (by kernel_rfl) (by kernel_rfl) ⟨last_B _, last_B _, last_B _, last_B _, last_V _, last_B _, last_B _, last_B _, last_B _, last_B _, last_B _, last_V _, last_V _, last_O _ _, last_O _ _, trivial⟩ ⟨?s0, ?s1, ?s2, ?s3, ?s4, ?s5, ?s6, ?s7, ?s8, ?s9, ?s10, ?s11, ?s12, ?s13, ?s14, trivial⟩ ?hQ
  case s0 =>
    refine famStep_of [] (by kernel_rfl) ?_
    intro W hB K hK
    simp only [Act.put, List.setIfInBounds_toArray, List.set_cons_zero, List.set_cons_succ] at hK ⊢
    obtain ⟨c0, c1, c2, c3, c4, c5⟩ := cells6 (HP.below hB)
    go_simp
    exact hK _ _ (hs.below hB) (Below.refl _ _)
  case s1 =>
    refine famStep_of [] (by kernel_rfl) ?_
    intro W hB K hK
    simp only [Act.put, List.setIfInBounds_toArray, List.set_cons_zero, List.set_cons_succ] at hK ⊢
    obtain ⟨c0, c1, c2, c3, c4, c5⟩ := cells6 (HP.below hB)
    go_simp
    exact hK _ _ (sS.below hB) (Below.refl _ _)
  case s2 =>
    refine famStep_of [] (by kernel_rfl) ?_
    intro W hB K hK
    simp only [Act.put, List.setIfInBounds_toArray, List.set_cons_zero, List.set_cons_succ] at hK ⊢
    obtain ⟨c0, c1, c2, c3, c4, c5⟩ := cells6 (HP.below hB)
    go_simp
    exact hK _ _ (hd.below hB) (Below.refl _ _)
  case s3 =>
    refine famStep_of [] (by kernel_rfl) ?_
    intro W hB K hK
    simp only [Act.put, List.setIfInBounds_toArray, List.set_cons_zero, List.set_cons_succ] at hK ⊢
    obtain ⟨c0, c1, c2, c3, c4, c5⟩ := cells6 (HP.below hB)
    go_simp
    exact hK _ _ (sS.below hB) (Below.refl _ _)
  case s4 =>
    refine famStep_of [(3, some 13)] (by kernel_rfl) ?_
    intro W hB v3 h3 K hK
    replace h3 : Rb W v3 xs := h3
    simp only [Act.put, List.setIfInBounds_toArray, List.set_cons_zero, List.set_cons_succ] at hK ⊢
    obtain ⟨c0, c1, c2, c3, c4, c5⟩ := cells6 (HP.below hB)
    obtain ⟨A3, n3, rfl⟩ := rk_form h3; go_simp; exact hK _ _ rfl (Below.refl _ _)
  case s5 =>
    refine famStep_of [(2, some 12), (4, some 14)] (by kernel_rfl) ?_
    intro W hB v2 h2 v4 h4 K hK
    replace h2 : Rb W v2 d := h2
    obtain rfl : v4 = (.int .i64 (xs.length : Int)) := h4
    simp only [Act.put, List.setIfInBounds_toArray, List.set_cons_zero, List.set_cons_succ] at hK ⊢
    obtain ⟨c0, c1, c2, c3, c4, c5⟩ := cells6 (HP.below hB)
    go_simp
    go_at_call 196; refine (rSized_c _ d (xs.length : Int) _ h2 (by have := hL.out.1; omega) (by have := hL.out.2; omega)).mono ?_; rintro e w6 ⟨v9, rfl, sD, h6⟩; replace sD := sD.rk; rw [Int.toNat_natCast] at sD; exact hK _ _ sD h6
  case s6 =>
    refine famStep_of [(1, some 11), (5, some 15)] (by kernel_rfl) ?_
    intro W hB v1 h1 v5 h5 K hK
    replace h1 : Rb W v1 xs := h1
    replace h5 : Rb W v5 (szd d xs.length) := h5
    simp only [Act.put, List.setIfInBounds_toArray, List.set_cons_zero, List.set_cons_succ] at hK ⊢
    obtain ⟨c0, c1, c2, c3, c4, c5⟩ := cells6 (HP.below hB)
    go_simp
    go_at_call 120; refine (rThrough_c _ _ xs (szd d xs.length) _ h1 h5 hsz.out (by have := hL.out.2; omega)).mono ?_; rintro e w6 ⟨v9, rfl, sT, h6⟩; replace sT := sT.rk; rw [hnt.out] at sT; exact hK _ _ sT h6
  case s7 =>
    refine famStep_of [(0, some 10), (6, some 16)] (by kernel_rfl) ?_
    intro W hB v0 h0 v6 h6 K hK
    replace h0 : Rb W v0 s := h0
    replace h6 : Rb W v6 (F.thr xs (szd d xs.length) xs.length) := h6
    simp only [Act.put, List.setIfInBounds_toArray, List.set_cons_zero, List.set_cons_succ] at hK ⊢
    obtain ⟨c0, c1, c2, c3, c4, c5⟩ := cells6 (HP.below hB)
    go_simp
    go_at_call 78; refine (rSum_c _ _ s _ _ h0 h6 (by omega) htl.out).mono ?_; rintro e w6 ⟨v9, rfl, sP, h6⟩; exact hK _ _ sP.rk h6
  case s8 =>
    refine famStep_of [] (by kernel_rfl) ?_
    intro W hB K hK
    simp only [Act.put, List.setIfInBounds_toArray, List.set_cons_zero, List.set_cons_succ] at hK ⊢
    obtain ⟨c0, c1, c2, c3, c4, c5⟩ := cells6 (HP.below hB)
    go_simp
    exact hK _ _ (sS.below hB) (Below.refl _ _)
  case s9 =>
    refine famStep_of [(8, some 18)] (by kernel_rfl) ?_
    intro W hB v8 h8 K hK
    replace h8 : Rb W v8 xs := h8
    simp only [Act.put, List.setIfInBounds_toArray, List.set_cons_zero, List.set_cons_succ] at hK ⊢
    obtain ⟨c0, c1, c2, c3, c4, c5⟩ := cells6 (HP.below hB)
    go_simp
    go_at_call 81; refine (rRoot_c _ xs _ h8 (by have := hL.out.2; omega)).mono ?_; rintro e w6 ⟨v9, rfl, sR, h6⟩; exact hK _ _ sR.rk h6
  case s10 =>
    refine famStep_of [(7, some 17), (9, some 19)] (by kernel_rfl) ?_
    intro W hB v7 h7 v9 h9 K hK
    replace h7 : Rb W v7 (F.padd s (F.thr xs (szd d xs.length) xs.length)) := h7
    replace h9 : Rb W v9 (F.rt xs) := h9
    simp only [Act.put, List.setIfInBounds_toArray, List.set_cons_zero, List.set_cons_succ] at hK ⊢
    obtain ⟨c0, c1, c2, c3, c4, c5⟩ := cells6 (HP.below hB)
    go_simp
    go_at_call 197; refine (rOver_c _ _ _ xs _ h7 h9 hpl.out).mono ?_; rintro e w6 ⟨v9, rfl, sQ, h6⟩; exact hK _ _ sQ.rk h6
  case s11 =>
    refine famStep_of [] (by kernel_rfl) ?_
    intro W hB K hK
    simp only [Act.put, List.setIfInBounds_toArray, List.set_cons_zero, List.set_cons_succ] at hK ⊢
    obtain ⟨c0, c1, c2, c3, c4, c5⟩ := cells6 (HP.below hB)
    go_simp
    exact hK _ _ rfl (Below.refl _ _)
  case s12 =>
    refine famStep_of [(11, some 21)] (by kernel_rfl) ?_
    intro W hB v11 h11 K hK
    obtain rfl : v11 = (.pointer (some ⟨w.heap.size, 1, none⟩)) := h11
    simp only [Act.put, List.setIfInBounds_toArray, List.set_cons_zero, List.set_cons_succ] at hK ⊢
    obtain ⟨c0, c1, c2, c3, c4, c5⟩ := cells6 (HP.below hB)
    go_simp
    exact hK _ _ rfl (Below.refl _ _)
  case s13 =>
    refine famStep_of [(10, some 20), (12, some 22)] (by kernel_rfl) ?_
    intro W hB v10 h10 v12 h12 K hK
    replace h10 : Rb W v10 (qts xs (F.padd s (F.thr xs (szd d xs.length) xs.length))) := h10
    obtain rfl : v12 = (.int .i64 p.T) := h12
    simp only [Act.put, List.setIfInBounds_toArray, List.set_cons_zero, List.set_cons_succ] at hK ⊢
    obtain ⟨c0, c1, c2, c3, c4, c5⟩ := cells6 (HP.below hB)
    go_simp
    go_at_call 196; refine (rSized_c _ _ p.T _ h10 hT.out.1 hT.out.2).mono ?_; rintro e w6 ⟨v9, rfl, sZ, h6⟩; rw [hR.out] at sZ; exact hK _ _ (sZ.lower (bt_ hB0 hB)) h6
  case s14 =>
    refine famStep_of [(13, some 23)] (by kernel_rfl) ?_
    intro W hB v13 h13 K hK
    replace h13 : Ob w W v13 (dealM p d s) := h13
    simp only [Act.put, List.setIfInBounds_toArray, List.set_cons_zero, List.set_cons_succ] at hK ⊢
    obtain ⟨c0, c1, c2, c3, c4, c5⟩ := cells6 (HP.below hB)
    go_simp
    exact hK _ _ h13 (Below.refl _ _)
  case hQ =>
    intro W hB v0 h0 v1 h1 v2 h2 v3 h3 v4 h4 v5 h5 v6 h6 v7 h7 v8 h8 v9 h9 v10 h10 v11 h11 v12 h12 v13 h13 v14 h14
    replace h0 : Rb W v0 s := h0
    replace h1 : Rb W v1 xs := h1
    replace h2 : Rb W v2 d := h2
    replace h3 : Rb W v3 xs := h3
    obtain rfl : v4 = (.int .i64 (xs.length : Int)) := h4
    replace h5 : Rb W v5 (szd d xs.length) := h5
    replace h6 : Rb W v6 (F.thr xs (szd d xs.length) xs.length) := h6
    replace h7 : Rb W v7 (F.padd s (F.thr xs (szd d xs.length) xs.length)) := h7
    replace h8 : Rb W v8 xs := h8
    replace h9 : Rb W v9 (F.rt xs) := h9
    replace h10 : Rb W v10 (qts xs (F.padd s (F.thr xs (szd d xs.length) xs.length))) := h10
    obtain rfl : v11 = (.pointer (some ⟨w.heap.size, 1, none⟩)) := h11
    obtain rfl : v12 = (.int .i64 p.T) := h12
    replace h13 : Ob w W v13 (dealM p d s) := h13
    replace h14 : Ob w W v14 (dealM p d s) := h14
    simp only [famGo, Act.put, List.setIfInBounds_toArray, List.set_cons_zero, List.set_cons_succ]
    go_wp2
    go_ret
    exact ⟨_, rfl, h14, bt_ hB0 hB⟩
set_option maxRecDepth 100000 in
set_option maxHeartbeats 3200000 in
theorem rBlind14_c (p : Pl) (h : p.Ok) (v : Value) (s : List F) (t : Int) (w : World) (hs : Rb w v s) (b1 : s.length ≤ 256) :
   Calls Try.prog 144 #[planV p, v, .int .i64 t] w fun e w' => ∃ z, e = .returned z ∧ Ob w w' z (blindM p s t) ∧ Below w.heap.size w w' := by
  have hT : Hid (1 ≤ p.T + p.L - 1 ∧ p.T + p.L - 1 ≤ 1000000) := Lib.hid (by have := h.t; have := h.l; have := h.tl; have := h.wn; have := h.nl; omega)
  have hR : Hid (szd (qts [point t] s) (p.T + p.L - 1).toNat = blindM p s t) := Lib.hid rfl
  have u0 : IntKind.i64.wrap (p.T + p.L) = p.T + p.L := wrapI _ (by have := hT.out; omega) (by have := hT.out; omega)
  have u1 : IntKind.i64.wrap (p.T + p.L - 1) = p.T + p.L - 1 := wrapI _ (by have := hT.out; omega) (by have := hT.out; omega)
  have hpt := fun w => rPoint_c t w
  generalize point t = x at *
  replace hpt := Lib.hid hpt
  have hrt := Lib.hid (rt_one x)
  have HP := Blk.new w (planC p) 33
  have hB := below_alloc (Below.refl w.heap.size w) (.cells (planC p) 33)
  have hs := hs.below hB
  obtain ⟨c0, c1, c2, c3, c4, c5⟩ := cells6 HP
  go_enter Try.func144, Try.ntmps144
  go_wp2_with fail
  generalize w.alloc (.cells (planC p) 33) = w1 at *
  have hB0 := hB
  clear hB c0 c1 c2 c3 c4 c5
  refine wp_region_say [(isB s), (isV (.int .i64 t)), (isV (.int .u8 (x.n : Int))), (isB [x, 1]), (isB (qts [x] s)), (isV (.pointer (some ⟨w.heap.size, 1, none⟩))), (isV (.int .i64 p.T)), (isV (.pointer (some ⟨w.heap.size, 2, none⟩))), (isV (.int .i64 p.L)), (isV (.int .i64 (p.T + p.L))), (isV (.int .i64 (p.T + p.L - 1))), (isO w (blindM p s t)), (isO w (blindM p s t))] [(0, some 7), (1, some 8), (2, some 9), (3, some 10), (4, some 11), (5, some 12), (6, some 13), (7, some 14), (8, some 15), (9, some 16), (10, some 17), (11, some 18), (12, some 6)] (by kernel_rfl) (by kernel_rfl) (by kernel_rfl) ⟨last_B _, last_V _, last_V _, last_B _, last_B _, last_V _, last_V _, last_V _, last_V _, last_V _, last_V _, last_O _ _, last_O _ _, trivial⟩ ⟨?s0, ?s1, ?s2, ?s3, ?s4, ?s5, ?s6, ?s7, ?s8, ?s9, ?s10, ?s11, ?s12, trivial⟩ ?hQ
  case s0 =>
    refine famStep_of [] (by kernel_rfl) ?_
    intro W hB K hK
    simp only [Act.put, List.setIfInBounds_toArray, List.set_cons_zero, List.set_cons_succ] at hK ⊢
    obtain ⟨c0, c1, c2, c3, c4, c5⟩ := cells6 (HP.below hB)
    go_simp
    exact hK _ _ (hs.below hB) (Below.refl _ _)
  case s1 =>
    refine famStep_of [] (by kernel_rfl) ?_
    intro W hB K hK
    simp only [Act.put, List.setIfInBounds_toArray, List.set_cons_zero, List.set_cons_succ] at hK ⊢
    obtain ⟨c0, c1, c2, c3, c4, c5⟩ := cells6 (HP.below hB)
    go_simp
    exact hK _ _ rfl (Below.refl _ _)
  case s2 =>
    refine famStep_of [(1, some 8)] (by kernel_rfl) ?_
    intro W hB v1 h1 K hK
    obtain rfl : v1 = (.int .i64 t) := h1
    simp only [Act.put, List.setIfInBounds_toArray, List.set_cons_zero, List.set_cons_succ] at hK ⊢
    obtain ⟨c0, c1, c2, c3, c4, c5⟩ := cells6 (HP.below hB)
    go_simp
    go_at_call 59; refine (hpt.out _).mono ?_; rintro e w_ ⟨rfl, rfl⟩; exact hK _ _ rfl (Below.refl _ _)
  case s3 =>
    refine famStep_of [(2, some 9)] (by kernel_rfl) ?_
    intro W hB v2 h2 K hK
    obtain rfl : v2 = (.int .u8 (x.n : Int)) := h2
    simp only [Act.put, List.setIfInBounds_toArray, List.set_cons_zero, List.set_cons_succ] at hK ⊢
    obtain ⟨c0, c1, c2, c3, c4, c5⟩ := cells6 (HP.below hB)
    go_simp
    exact hK _ _ (lit_b W [x, 1] _ _ _ _ rfl rfl (by decide) (by decide)) (alloc_b _ _)
  case s4 =>
    refine famStep_of [(0, some 7), (3, some 10)] (by kernel_rfl) ?_
    intro W hB v0 h0 v3 h3 K hK
    replace h0 : Rb W v0 s := h0
    replace h3 : Rb W v3 [x, 1] := h3
    simp only [Act.put, List.setIfInBounds_toArray, List.set_cons_zero, List.set_cons_succ] at hK ⊢
    obtain ⟨c0, c1, c2, c3, c4, c5⟩ := cells6 (HP.below hB)
    go_simp
    go_at_call 197; refine (rOver_c _ _ s [x] _ h0 (by rw [hrt.out]; exact h3) b1).mono ?_; rintro e w6 ⟨v9, rfl, sQ, h6⟩; exact hK _ _ sQ.rk h6
  case s5 =>
    refine famStep_of [] (by kernel_rfl) ?_
    intro W hB K hK
    simp only [Act.put, List.setIfInBounds_toArray, List.set_cons_zero, List.set_cons_succ] at hK ⊢
    obtain ⟨c0, c1, c2, c3, c4, c5⟩ := cells6 (HP.below hB)
    go_simp
    exact hK _ _ rfl (Below.refl _ _)
  case s6 =>
    refine famStep_of [(5, some 12)] (by kernel_rfl) ?_
    intro W hB v5 h5 K hK
    obtain rfl : v5 = (.pointer (some ⟨w.heap.size, 1, none⟩)) := h5
    simp only [Act.put, List.setIfInBounds_toArray, List.set_cons_zero, List.set_cons_succ] at hK ⊢
    obtain ⟨c0, c1, c2, c3, c4, c5⟩ := cells6 (HP.below hB)
    go_simp
    exact hK _ _ rfl (Below.refl _ _)
  case s7 =>
    refine famStep_of [] (by kernel_rfl) ?_
    intro W hB K hK
    simp only [Act.put, List.setIfInBounds_toArray, List.set_cons_zero, List.set_cons_succ] at hK ⊢
    obtain ⟨c0, c1, c2, c3, c4, c5⟩ := cells6 (HP.below hB)
    go_simp
    exact hK _ _ rfl (Below.refl _ _)
  case s8 =>
    refine famStep_of [(7, some 14)] (by kernel_rfl) ?_
    intro W hB v7 h7 K hK
    obtain rfl : v7 = (.pointer (some ⟨w.heap.size, 2, none⟩)) := h7
    simp only [Act.put, List.setIfInBounds_toArray, List.set_cons_zero, List.set_cons_succ] at hK ⊢
    obtain ⟨c0, c1, c2, c3, c4, c5⟩ := cells6 (HP.below hB)
    go_simp
    exact hK _ _ rfl (Below.refl _ _)
  case s9 =>
    refine famStep_of [(6, some 13), (8, some 15)] (by kernel_rfl) ?_
    intro W hB v6 h6 v8 h8 K hK
    obtain rfl : v6 = (.int .i64 p.T) := h6
    obtain rfl : v8 = (.int .i64 p.L) := h8
    simp only [Act.put, List.setIfInBounds_toArray, List.set_cons_zero, List.set_cons_succ] at hK ⊢
    obtain ⟨c0, c1, c2, c3, c4, c5⟩ := cells6 (HP.below hB)
    go_simp
    exact hK _ _ rfl (Below.refl _ _)
  case s10 =>
    refine famStep_of [(9, some 16)] (by kernel_rfl) ?_
    intro W hB v9 h9 K hK
    obtain rfl : v9 = (.int .i64 (p.T + p.L)) := h9
    simp only [Act.put, List.setIfInBounds_toArray, List.set_cons_zero, List.set_cons_succ] at hK ⊢
    obtain ⟨c0, c1, c2, c3, c4, c5⟩ := cells6 (HP.below hB)
    go_simp
    exact hK _ _ rfl (Below.refl _ _)
  case s11 =>
    refine famStep_of [(4, some 11), (10, some 17)] (by kernel_rfl) ?_
    intro W hB v4 h4 v10 h10 K hK
    replace h4 : Rb W v4 (qts [x] s) := h4
    obtain rfl : v10 = (.int .i64 (p.T + p.L - 1)) := h10
    simp only [Act.put, List.setIfInBounds_toArray, List.set_cons_zero, List.set_cons_succ] at hK ⊢
    obtain ⟨c0, c1, c2, c3, c4, c5⟩ := cells6 (HP.below hB)
    go_simp
    go_at_call 196; refine (rSized_c _ _ (p.T + p.L - 1) _ h4 hT.out.1 hT.out.2).mono ?_; rintro e w6 ⟨v9, rfl, sZ, h6⟩; rw [hR.out] at sZ; exact hK _ _ (sZ.lower (bt_ hB0 hB)) h6
  case s12 =>
    refine famStep_of [(11, some 18)] (by kernel_rfl) ?_
    intro W hB v11 h11 K hK
    replace h11 : Ob w W v11 (blindM p s t) := h11
    simp only [Act.put, List.setIfInBounds_toArray, List.set_cons_zero, List.set_cons_succ] at hK ⊢
    obtain ⟨c0, c1, c2, c3, c4, c5⟩ := cells6 (HP.below hB)
    go_simp
    exact hK _ _ h11 (Below.refl _ _)
  case hQ =>
    intro W hB v0 h0 v1 h1 v2 h2 v3 h3 v4 h4 v5 h5 v6 h6 v7 h7 v8 h8 v9 h9 v10 h10 v11 h11 v12 h12
    replace h0 : Rb W v0 s := h0
    obtain rfl : v1 = (.int .i64 t) := h1
    obtain rfl : v2 = (.int .u8 (x.n : Int)) := h2
    replace h3 : Rb W v3 [x, 1] := h3
    replace h4 : Rb W v4 (qts [x] s) := h4
    obtain rfl : v5 = (.pointer (some ⟨w.heap.size, 1, none⟩)) := h5
    obtain rfl : v6 = (.int .i64 p.T) := h6
    obtain rfl : v7 = (.pointer (some ⟨w.heap.size, 2, none⟩)) := h7
    obtain rfl : v8 = (.int .i64 p.L) := h8
    obtain rfl : v9 = (.int .i64 (p.T + p.L)) := h9
    obtain rfl : v10 = (.int .i64 (p.T + p.L - 1)) := h10
    replace h11 : Ob w W v11 (blindM p s t) := h11
    replace h12 : Ob w W v12 (blindM p s t) := h12
    simp only [famGo, Act.put, List.setIfInBounds_toArray, List.set_cons_zero, List.set_cons_succ]
    go_wp2
    go_ret
    exact ⟨_, rfl, h12, bt_ hB0 hB⟩
end Go.Proofs.Ytijeabhfddaoaaa
