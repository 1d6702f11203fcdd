/- The walks of the reference of layer 9: Cut, Fits, Join. -/
import Derived.Test.YtijeabhfddaoaaaCut
import Derived.Test.YtijeabhfddaoaaaR08b
namespace Go.Proofs.Ytijeabhfddaoaaa
set_option linter.unusedVariables false
open Go.RowKit Go.Proofs.YtijeabhfddaoaaaW.PrintWords Go.Proofs.Sh

def rwTo (L : Nat) (b : List F) (k j : Nat) : List F := (List.range L).map fun i => if i < j then b.getD (k * L + i) 0 else 0
theorem rwTo_len (L : Nat) (b : List F) (k j : Nat) : (rwTo L b k j).length = L := by simp [rwTo]
theorem rwTo_at (L : Nat) (b : List F) (k j i : Nat) (h : i < L) : (rwTo L b k j).getD i 0 = if i < j then b.getD (k * L + i) 0 else 0 := by simp [rwTo, List.getD_eq_getElem?_getD, h]
theorem rwTo_0 (L : Nat) (b : List F) (k : Nat) : rwTo L b k 0 = List.replicate L 0 := by
  apply F.ext_at (by rw [rwTo_len, List.length_replicate])
  intro j hj
  rw [rwTo_len] at hj
  show (rwTo L b k 0).getD j 0 = _
  rw [rwTo_at _ _ _ _ _ hj, if_neg (by omega)]
  simp [F.at_, List.getD_eq_getElem?_getD, hj]
theorem rwTo_all (L : Nat) (b : List F) (k : Nat) : rwTo L b k L = F.rowOf L b k := by
  unfold rwTo F.rowOf
  exact List.map_congr_left fun i hi => if_pos (List.mem_range.1 hi)
theorem rwTo_set (L : Nat) (b : List F) (k j : Nat) (h : j < L) : (rwTo L b k j).set j (b.getD (k * L + j) 0) = rwTo L b k (j + 1) := by
  apply F.ext_at (by rw [List.length_set, rwTo_len, rwTo_len])
  intro t ht
  rw [List.length_set, rwTo_len] at ht
  rw [F.at_set _ _ _ (by rw [rwTo_len]; exact h)]
  show (if t = j then _ else (rwTo L b k j).getD t 0) = (rwTo L b k (j + 1)).getD t 0
  rw [rwTo_at _ _ _ _ _ ht, rwTo_at _ _ _ _ _ ht]
  by_cases e : t = j
  · rw [if_pos e, if_pos (by omega), e]
  · rw [if_neg e]
    by_cases g1 : t < j
    · rw [if_pos g1, if_pos (by omega)]
    · rw [if_neg g1, if_neg (by omega)]
theorem rwTo_skip (L : Nat) (b : List F) (k j : Nat) (h : b.length ≤ k * L + j) : rwTo L b k j = rwTo L b k (j + 1) := by
  unfold rwTo
  refine List.map_congr_left fun i hi => ?_
  by_cases g : i < j
  · rw [if_pos g, if_pos (by omega)]
  · rw [if_neg g]
    by_cases e : i < j + 1
    · rw [if_pos e]
      have : b.length ≤ k * L + i := by omega
      simp [List.getD_eq_getElem?_getD, List.getElem?_eq_none this]
    · rw [if_neg e]
theorem nat_l {p : Pl} (h : p.Ok) : ∃ L : Nat, p.L = L ∧ p.L.toNat = L ∧ 1 ≤ L ∧ L ≤ 256 :=
  ⟨p.L.toNat, by have := h.l; omega, rfl, by have := h.l; omega, by have := h.t; have := h.tl; have := h.wn; have := h.nl; have := h.l; omega⟩
set_option maxRecDepth 100000 in
set_option maxHeartbeats 3200000 in
theorem rCut_c (p : Pl) (h : p.Ok) (v : Value) (b : List F) (w : World) (hv : Rb w v b) (hl : b.length ≤ 240) :
   Calls Try.prog 90 #[planV p, v] w fun e w' => ∃ z, e = .returned z ∧ Obb w w' z (F.cutOf p.L.toNat b (F.nS p.L.toNat b.length)) ∧ Below w.heap.size w w' := by
  have hst := stripes_nat h b.length hl
  obtain ⟨L, eL, eL2, hL1, hL2⟩ := nat_l h
  rw [eL2] at hst ⊢
  obtain ⟨N, hN⟩ : ∃ N, N = F.nS L b.length := ⟨_, rfl⟩
  have hNl : N ≤ 240 := by rw [hN]; exact Nat.le_trans (F.nS_le_len L b.length hL1) hl
  rw [← hN] at hst ⊢
  have hS : ∀ W : World, Calls Try.prog 70 #[planV p, .int .i64 (b.length : Int)] W fun e W' => e = .returned (.int .i64 (N : Int)) ∧ Below W.heap.size W W' := fun W => by
    have := rStripes_c p h b.length W
    rw [hst] at this
    exact this
  clear hst
  replace hN := Lib.hid hN
  replace eL := Lib.hid eL
  clear eL2
  obtain ⟨A, c, rfl⟩ := rk_form hv
  have HP := Blk.new w (planC p) 33
  have hB := below_alloc (Below.refl w.heap.size w) (.cells (planC p) 33)
  go_enter Try.func90, Try.ntmps90
  go_wp2_with fail
  go_loopw [5, 6, 7, 8] (fun s i _ _ wr => ∃ k : Nat, k ≤ N ∧ i = .int .i64 k ∧ Obb w wr s (F.cutOf L b k) ∧ Below w.heap.size w wr ∧ Blk wr w.heap.size (planC p) 33) (fun _ i _ _ _ => N - (intOf i).toNat)
  case atStart => exact ⟨0, by omega, rfl, Own.nil _ _ _ _, hB, HP⟩
  case round =>
    clear hB HP
    obtain ⟨k, hk, rfl, hO, hB, HP⟩ := hrel
    obtain ⟨c0, c1, c2, c3, c4, c5⟩ := cells6 HP
    go_wp2_with fail
    refine (hS _).mono ?_
    rintro e wa ⟨rfl, h1⟩
    replace HP := HP.below h1
    replace hO := hO.below h1
    replace hB := bt_ hB h1
    clear h1 c0 c1 c2 c3 c4 c5
    obtain ⟨c0, c1, c2, c3, c4, c5⟩ := cells6 HP
    rw [eL.out] at c2
    have hsz : w.heap.size ≤ wa.heap.size := Nat.le_of_lt HP.lt
    by_cases hlt : k < N
    · have HS := Lib.hid (F.cutOf_snoc L b k)
      have hol : Hid ((F.cutOf L b k).length ≤ 1000) := Lib.hid (by rw [F.cutOf_len]; omega)
      have hal := Lib.hid (rwTo_all L b k)
      obtain ⟨m, hm⟩ : ∃ m, m = k * L := ⟨_, rfl⟩
      have hmb : m ≤ 240 * 256 := by rw [hm]; exact Nat.mul_le_mul (by omega) (by omega)
      have hmI : (k : Int) * (L : Int) = (m : Int) := by rw [hm]; exact (Int.natCast_mul ..).symm
      have u1 : IntKind.i64.wrap (m : Int) = m := wrapI _ (by omega) (by omega)
      replace hm := Lib.hid hm
      go_wp2_with ((with_reducible refine gate_dst (N := 19) rfl ?_); refine mk_len kb rfl (N := 19) rfl 40 5 _ _ rfl _ rfl rfl Try.underlying40 (.int .u8 0) 1 infoB rfl Nat.one_pos (by decide) (0 : F) rfl ?h0 ?hl (Below.refl wa.heap.size wa) ?_; (case h0 => omega); (case hl => omega); intro v1 w1 ho hb hg)
      replace ho : Ob wa w1 v1 _ := ho
      rw [Int.toNat_natCast, ← rwTo_0 L b k] at ho
      obtain ⟨g, cap, rfl, hg1, hg2⟩ := Ob.form ho (by rw [rwTo_len]; omega)
      rw [rwTo_len] at ho ⊢
      clear hg hg2 c0 c1 c2 c3 c4 c5
      go_wp2_with fail
      go_loopw [8] (fun j wr2 => ∃ q : Nat, q ≤ L ∧ j = .int .i64 q ∧ Ob wa wr2 (.slice (some ⟨g, 0, none⟩) L cap) (rwTo L b k q) ∧ Below wa.heap.size wa wr2) (fun j _ => L - (intOf j).toNat)
      case atStart => exact ⟨0, by omega, rfl, ho, hb⟩
      case round =>
        clear ho hb
        obtain ⟨q, hq, rfl, hY, hD⟩ := hrel
        have HPq := HP.below hD
        obtain ⟨c0, c1, c2, c3, c4, c5⟩ := cells6 HPq
        rw [eL.out] at c2
        by_cases hlt2 : q < L
        · have u2 : IntKind.i64.wrap ((m : Int) + (q : Int)) = (m : Int) + (q : Int) := wrapI _ (by omega) (by omega)
          have hsum : ((m + q : Nat) : Int) = (m : Int) + (q : Int) := Int.natCast_add ..
          by_cases hin : m + q < b.length
          · have t1 : decide ((m : Int) + (q : Int) < (b.length : Int)) = true := decide_eq_true (by omega)
            have hvq := hv.below (bt_ hB hD)
            obtain ⟨ad, rfl, d1⟩ := kb_at (rk_C hvq) (m + q) hin
            obtain ⟨c6, f6⟩ := hY.at q (by rw [rwTo_len]; exact hlt2)
            have hset := Lib.hid (rwTo_set L b k q hlt2)
            rw [← hm.out] at hset
            have hs2 := fun x => Lib.hid (hY.set q x)
            generalize (rwTo L b k q).getD q 0 = y at *
            generalize b.getD (m + q) 0 = x at *
            have i1 : (0 : Int) ≤ (m : Int) + (q : Int) := by omega
            have i2 : (m : Int) + (q : Int) < (b.length : Int) := by omega
            have i3 : ((m : Int) + (q : Int)).toNat = m + q := by omega
            go_wp2
            obtain ⟨hO2, hgr⟩ := (hs2 x).out
            rw [hset.out] at hO2
            exact ⟨⟨q + 1, by omega, by go_num, hO2, hD.grown hgr hD.size (fun k hk => by injection hk with hk; omega)⟩, by simp [intOf]; try omega⟩
          · have t1 : decide ((m : Int) + (q : Int) < (b.length : Int)) = false := decide_eq_false (by omega)
            have hsk := rwTo_skip L b k q (by rw [← hm.out]; omega)
            rw [hsk] at hY
            clear hsk
            go_wp2
            exact ⟨⟨q + 1, by omega, by go_num, hY, hD⟩, by simp [intOf]; try omega⟩
        · obtain rfl : q = L := by omega
          rw [hal.out] at hY
          have hO2 := hO.below hD
          have hB2 := bt_ hB hD
          have hPq := HP.below hD
          clear hO hB HP hD
          have hol2 := hol.out
          go_wp2_with (at_builtin; refine app_row rfl (.tmp 47) (.tmp 49) 66 40 rfl Try.underlying66 infoR (by decide) _ _ _ _ rfl rfl hO2 (Kd.R_lower hY hsz) hB2 ?hl ?_; (case hl => (first | (simp; omega) | omega)); intro v1 w1 ho hb hg)
          exact ⟨⟨k + 1, by omega, by go_num, by rw [HS.out]; exact ho, hb, hPq.grown hO2 (by decide) hg⟩, by simp [intOf]; try omega⟩
    · obtain rfl : k = N := by omega
      go_wp2
      go_ret
      exact ⟨_, rfl, hO, hB⟩
set_option maxRecDepth 100000 in
set_option maxHeartbeats 3200000 in
theorem rFits_c (p : Pl) (h : p.Ok) (v : Value) (l : List (List F)) (n : Int) (hl : l.length ≤ 1000000) (w : World) (hv : Rbb w v l) :
   Calls Try.prog 91 #[planV p, v, .int .i64 n] w fun e w' => e = .returned (.bool (decide (fitsJ p l n))) ∧ Below w.heap.size w w' := by
  obtain ⟨A, c, rfl⟩ := rk_form hv
  have HP := Blk.new w (planC p) 33
  have hB := below_alloc (Below.refl w.heap.size w) (.cells (planC p) 33)
  by_cases hs : (l.length : Int) = stripesOf p n
  · have t1 : ((l.length : Int) != stripesOf p n) = false := by rw [hs]; simp
    have hfin : Hid (decide (fitsJ p l n) = !(l.any (bad3 p.L))) := Lib.hid (by
      cases hb : l.any (bad3 p.L) with
      | true => exact decide_eq_false (fun g => by have := g.2; rw [hb] at this; cases this)
      | false => exact decide_eq_true ⟨hs, hb⟩)
    clear hs
    go_enter Try.func91, Try.ntmps91
    go_wp2_with fail
    refine (rStripes_c p h _ _).mono ?_
    rintro e wa ⟨rfl, h1⟩
    replace HP := HP.below h1
    replace hB := bt_ hB h1
    clear h1
    go_wp2_with fail
    clear t1
    go_loopw [7] (fun i wr => Below wa.heap.size wa wr ∧ ∃ k : Nat, k ≤ l.length ∧ i = .int .i64 k ∧ Hid ((l.take k).any (bad3 p.L) = false)) (fun i _ => l.length - (intOf i).toNat)
    case atStart => exact ⟨Below.refl _ _, 0, by omega, rfl, Lib.hid rfl⟩
    case round =>
      obtain ⟨hD, k, hk, rfl, hJ⟩ := hrel
      replace HP := HP.below hD
      replace hB := bt_ hB hD
      obtain ⟨c0, c1, c2, c3, c4, c5⟩ := cells6 HP
      by_cases hlt : k < l.length
      · have hvq := hv.below hB
        obtain ⟨ad, u, rfl, d0, hu⟩ := kbb_at (rk_C hvq) k hlt
        have hsn : Hid (l.take (k + 1) = l.take k ++ [l.getD k []]) := Lib.hid (take_snoc' l k [] hlt)
        have hin : Hid (l.getD k [] ∈ l) := Lib.hid (by rw [List.getD_eq_getElem?_getD, List.getElem?_eq_getElem hlt]; exact List.getElem_mem hlt)
        generalize l.getD k [] = r at *
        obtain ⟨A5, c5', rfl⟩ := rk_form hu
        cases hb : bad3 p.L r with
        | true =>
          have hb2 : ((r.length : Int) != p.L) = true := hb
          have hf2 : Hid (decide (fitsJ p l n) = false) := Lib.hid (by rw [hfin.out, List.any_eq_true.2 ⟨r, hin.out, hb⟩]; rfl)
          clear hb hfin
          go_wp2_with fail
          go_quiet (fail)
          go_wp2
          go_ret
          rw [hf2.out]
          exact ⟨rfl, pw_below_drewN hB _⟩
        | false =>
          have hb2 : ((r.length : Int) != p.L) = false := hb
          have hJ2 : Hid ((l.take (k + 1)).any (bad3 p.L) = false) := Lib.hid (by rw [hsn.out, List.any_append, hJ.out]; simp [hb])
          clear hb
          go_wp2_with fail
          go_quiet (fail)
          go_wp2
          exact ⟨⟨pw_below_drewN hD _, k + 1, by omega, by go_num, hJ2⟩, by simp [intOf]; try omega⟩
      · obtain rfl : k = l.length := by omega
        have hf2 : Hid (decide (fitsJ p l n) = true) := Lib.hid (by rw [hfin.out]; have := hJ.out; rw [List.take_length] at this; rw [this]; rfl)
        go_wp2
        go_ret
        rw [hf2.out]
        exact ⟨rfl, hB⟩
  · have t1 : ((l.length : Int) != stripesOf p n) = true := bne_iff_ne.2 hs
    have hfin : Hid (decide (fitsJ p l n) = false) := Lib.hid (decide_eq_false (fun g => hs g.1))
    clear hs
    go_enter Try.func91, Try.ntmps91
    go_wp2_with fail
    refine (rStripes_c p h _ _).mono ?_
    rintro e wa ⟨rfl, h1⟩
    go_wp2
    go_ret
    rw [hfin.out]
    exact ⟨rfl, bt_ hB h1⟩
theorem joinOf_snoc (L : Nat) (l : List (List F)) (k : Nat) : F.joinOf L l (k + 1) = F.joinOf L l k ++ [(l.getD (k / L) []).getD (k % L) 0] := by simp [F.joinOf, List.range_succ]
set_option maxRecDepth 100000 in
set_option maxHeartbeats 3200000 in
theorem rJoin_c (p : Pl) (h : p.Ok) (v : Value) (l : List (List F)) (n : Nat) (hn : n ≤ 240) (w : World) (hv : Rbb w v l) (hfit : fitsJ p l n) :
   Calls Try.prog 92 #[planV p, v, .int .i64 (n : Int)] w fun e w' => ∃ z, e = .returned z ∧ Ob w w' z (F.joinOf p.L.toNat l n) ∧ Below w.heap.size w w' := by
  have hrl0 := bad3_all hfit.2
  have hst := stripes_nat h n hn
  have hll0 := hfit.1
  obtain ⟨L, eL, eL2, hL1, hL2⟩ := nat_l h
  rw [eL2] at hst ⊢
  have hll : l.length = F.nS L n := by rw [hst] at hll0; omega
  have hrl : Hid (∀ r ∈ l, r.length = L) := Lib.hid (fun r hr => by have := hrl0 r hr; omega)
  have hlt9 : Hid (∀ k, k < n → k / L < l.length) := Lib.hid (fun k hk => by
    rw [hll, F.nS_lt L n _ (by omega)]
    exact Nat.lt_of_le_of_lt (Nat.div_mul_le_self k L) hk)
  clear hfit hrl0 hst hll0 hll eL2
  replace eL := Lib.hid eL
  obtain ⟨A, c, rfl⟩ := rk_form hv
  have HP := Blk.new w (planC p) 33
  have hB := below_alloc (Below.refl w.heap.size w) (.cells (planC p) 33)
  go_enter Try.func92, Try.ntmps92
  go_wp2_with fail
  go_loopw [7, 8] (fun s i wr => ∃ k : Nat, k ≤ n ∧ i = .int .i64 k ∧ Ob w wr s (F.joinOf L l k) ∧ Below w.heap.size w wr ∧ Blk wr w.heap.size (planC p) 33) (fun _ i _ => n - (intOf i).toNat)
  case atStart => exact ⟨0, by omega, rfl, Own.nil _ _ _ _, hB, HP⟩
  case round =>
    clear hB HP
    obtain ⟨k, hk, rfl, hO, hB, HP⟩ := hrel
    by_cases hlt : k < n
    · obtain ⟨c0, c1, c2, c3, c4, c5⟩ := cells6 HP
      rw [eL.out] at c2
      have HS := Lib.hid (joinOf_snoc L l k)
      have hol : (F.joinOf L l k).length ≤ 1000 := by rw [F.joinOf_len]; omega
      have hq := hlt9.out k hlt
      obtain ⟨ad, u, rfl, d0, hu⟩ := kbb_at (rk_C hv) (k / L) hq
      have hrlen : (l.getD (k / L) []).length = L := hrl.out _ (by rw [List.getD_eq_getElem?_getD, List.getElem?_eq_getElem hq]; exact List.getElem_mem hq)
      have hmod : k % L < L := Nat.mod_lt _ (by omega)
      have hdI : ((k / L : Nat) : Int) = (k : Int) / (L : Int) := Int.natCast_ediv ..
      have hmI : ((k % L : Nat) : Int) = (k : Int) % (L : Int) := Int.natCast_emod ..
      generalize l.getD (k / L) [] = r at *
      obtain ⟨A5, c5', rfl⟩ := rk_form hu
      obtain ⟨ad3, rfl, d2⟩ := kb_at (rk_C hu) (k % L) (by omega)
      generalize r.getD (k % L) 0 = z at *
      have e0 := pw_cell_below hB d0
      have e2 := pw_cell_below hB d2
      have i1 : (0 : Int) ≤ (k : Int) / (L : Int) := by rw [← hdI]; exact Int.natCast_nonneg _
      have i2 : (k : Int) / (L : Int) < (l.length : Int) := by rw [← hdI]; exact Int.ofNat_lt.2 hq
      have i3 : (0 : Int) ≤ (k : Int) % (L : Int) := by rw [← hmI]; exact Int.natCast_nonneg _
      have i4 : (k : Int) % (L : Int) < (L : Int) := by rw [← hmI]; exact Int.ofNat_lt.2 hmod
      have i5 : ((k : Int) / (L : Int)).toNat = k / L := by rw [← hdI, Int.toNat_natCast]
      have i6 : ((k : Int) % (L : Int)).toNat = k % L := by rw [← hmI, Int.toNat_natCast]
      have hL0 : ¬ L = 0 := by omega
      have i7 : (k : Int) / (L : Int) ≤ 240 := by
        have h7 : k / L ≤ 240 := Nat.le_trans (Nat.div_le_self k L) (by omega)
        rw [← hdI]; exact Int.ofNat_le.2 h7
      have u5 : IntKind.i64.wrap ((k : Int) / (L : Int)) = (k : Int) / (L : Int) := wrapI _ (Int.le_trans (by decide) i1) (Int.le_trans i7 (by decide))
      have u6 : (k : Int).tmod (L : Int) = (k : Int) % (L : Int) := Int.tmod_eq_emod_of_nonneg (by omega)
      clear c0 c1 c3 c4 c5
      replace hdI := Lib.hid hdI
      replace hmI := Lib.hid hmI
      go_wp2_with fail
      go_region_held3 (fun w' => w'.cell? ⟨w.heap.size, 2, none⟩ = some (.int .i64 (L : Int)) ∧ w'.cell? (ad.add (k / L)) = some (.slice (some ad3) r.length c5') ∧ w'.cell? (ad3.add (k % L)) = some (.int .u8 (z.n : Int)))
        (go_keep)
        (first
        | (refine step_app_y (w0 := w) (by rfl) (.tmp 14) (.tmp 28) (by rfl) u7 _ z _ (by rfl) (by rfl) (by rfl) (hO.below (pw_below_drewN (Below.refl _ _) _)) (pw_below_drewN hB _) (by omega) ?_; intro v8 w8 hO8 hB8 hg8; replace e0 := pw_cell_below hB8 d0; replace e2 := pw_cell_below hB8 d2; have HP8 := (HP.below (pw_below_drewN (Below.refl _ _) _)).grown (hO.below (pw_below_drewN (Below.refl _ _) _)) (by decide) hg8; clear c2; obtain ⟨_, _, c2, _, _, _⟩ := cells6 HP8; rw [eL.out] at c2)
        | fail)
      go_wp2
      exact ⟨⟨k + 1, by omega, by go_num, by rw [HS.out]; exact hO8, hB8, HP8⟩, by simp [intOf]; try omega⟩
    · obtain rfl : k = n := by omega
      go_wp2
      go_ret
      exact ⟨_, rfl, hO, hB⟩
end Go.Proofs.Ytijeabhfddaoaaa
