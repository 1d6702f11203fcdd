/- The walks of package mask: check, filled, Shift. -/
import Derived.Test.YtijeabhfddaoaaaK7
import Derived.Test.YtijeabhfddaoaaaM8
import Derived.Test.YtijeabhfddaoaaaBl
import Derived.Test.YtijeabhfddaoaaaBf
import Derived.Test.YtijeabhfddaoaaaLa
import Derived.Lib.BufferMore
namespace Go.Proofs.Ytijeabhfddaoaaa
set_option linter.unusedVariables false
open Go.RowKit Go.Proofs.YtijeabhfddaoaaaW.PrintWords Go.Proofs.Sh

def bad0 (p : Pl) (i : Int) : Bool := !decide (1 ≤ i ∧ i ≤ p.N)
/-- What is wrong with bytes and custodians; 0: nothing. -/
def maE (p : Pl) (d : Nat) (zs : List Int) : Int := if (d : Int) ≠ p.L then 3 else if p.T < (zs.length : Int) then 2 else if zs.any (bad0 p) = true then 2 else if ¬ zs.Nodup then 5 else 0
theorem mClos_c (p : Pl) (h : p.Ok) (b : Nat) (i : Int) (w : World) (HP : Blk w b (planC p) 33) :
   Calls Try.prog 213 #[.int .i64 i, .pointer (some ⟨b, 0, none⟩)] w fun e w' => e = .returned (.bool (bad0 p i)) ∧ Below w.heap.size w w' := by
  have hb : Hid (bad0 p i = !decide (1 ≤ i ∧ i ≤ p.N)) := Lib.hid rfl
  obtain ⟨c0, c1, c2, c3, c4, c5⟩ := cells6 HP
  have hi := fun w => is_yes p h i w
  generalize decide (1 ≤ i ∧ i ≤ p.N) = bb at *
  replace hi := Lib.hid hi
  go_enter Try.func213, Try.ntmps213
  go_wp2_with fail
  refine (hi.out _).mono ?_
  rintro e w2 ⟨rfl, h2⟩
  go_wp2
  go_ret
  rw [hb.out]
  exact ⟨rfl, h2⟩
set_option maxRecDepth 100000 in
set_option maxHeartbeats 1600000 in
theorem mCheck_no (p : Pl) (h : ¬ p.Ok) (v u : Value) (w : World) :
   Calls Try.prog 191 #[planV p, v, u] w fun e w' => e = .returned (.int .i64 1) ∧ Below w.heap.size w w' := by
  have HP := Blk.new w (planC p) 33
  have hB := below_alloc (Below.refl w.heap.size w) (.cells (planC p) 33)
  go_enter Try.func191, Try.ntmps191
  go_wp2_with fail
  refine (right_no p h _).mono ?_
  rintro e w1 ⟨rfl, h1⟩
  go_wp2
  go_ret
  exact ⟨rfl, bt_ hB h1⟩
set_option maxRecDepth 100000 in
set_option maxHeartbeats 3200000 in
theorem mCheck_c (p : Pl) (h : p.Ok) (v u : Value) (d : List F) (zs : List Int) (w : World) (hv : Rb w v d) (hu : Ri w u zs) :
   Calls Try.prog 191 #[planV p, v, u] w fun e w' => e = .returned (.int .i64 (maE p d.length zs)) ∧ Below w.heap.size w w' := by
  have HP := Blk.new w (planC p) 33
  have hB := below_alloc (Below.refl w.heap.size w) (.cells (planC p) 33)
  obtain ⟨A, c, rfl, hc, hr⟩ := hv
  have hld := kb_len hr
  have hu := hu.below hB
  obtain ⟨B, c', rfl, hc', hr'⟩ := hu
  have hlz := ri_len hr'
  have hu : Ri _ (.slice B zs.length c') zs := ⟨B, c', rfl, hc', hr'⟩
  go_enter Try.func191, Try.ntmps191
  go_wp2_with fail
  refine (right_yes p h _).mono ?_
  rintro e w1 ⟨rfl, h1⟩
  have HP := HP.below h1
  have hB := bt_ hB h1
  obtain ⟨c0, c1, c2, c3, c4, c5⟩ := cells6 HP
  have hu := hu.below h1
  clear h1 hr hr' hc
  by_cases g1 : (d.length : Int) = p.L
  · have t1 : ((d.length : Int) != p.L) = false := by rw [g1]; simp
    replace g1 := Lib.hid g1
    by_cases g2 : p.T < (zs.length : Int)
    · have hf : Hid (maE p d.length zs = 2) := Lib.hid (by
        unfold maE
        rw [if_neg (fun e => e g1.out), if_pos g2])
      have t2 : decide (p.T < (zs.length : Int)) = true := decide_eq_true g2
      go_wp2
      go_ret
      rw [hf.out]
      exact ⟨rfl, hB⟩
    · have t2 : decide (p.T < (zs.length : Int)) = false := decide_eq_false g2
      replace g2 := Lib.hid g2
      by_cases g3 : zs.any (bad0 p) = true
      · have hf : Hid (maE p d.length zs = 2) := Lib.hid (by
          unfold maE
          rw [if_neg (fun e => e g1.out), if_neg (by have := g2.out; omega), if_pos g3])
        replace g3 := Lib.hid g3
        have hst := Lib.hid (fun i wr hwr => mClos_c p h _ i wr (HP.below hwr))
        go_wp2_with fail
        refine (cfInts_mask _ (bad0 p) _ zs _ hu hst.out).mono ?_
        rintro e w2 ⟨rfl, h2⟩
        rw [g3.out]
        go_wp2
        go_ret
        rw [hf.out]
        exact ⟨rfl, bt_ hB h2⟩
      · replace g3 : Hid (zs.any (bad0 p) = false) := Lib.hid (by simpa using g3)
        have hst := Lib.hid (fun i wr hwr => mClos_c p h _ i wr (HP.below hwr))
        go_wp2_with fail
        refine (cfInts_mask _ (bad0 p) _ zs _ hu hst.out).mono ?_
        rintro e w2 ⟨rfl, h2⟩
        rw [g3.out]
        have hB := bt_ hB h2
        have hu := hu.below h2
        have hr := rk_C hu
        clear h2 HP c0 c1 c2 c3 c4 c5
        go_wp2_with fail
        go_loop [7, 8, 32] (fun _ _ i => ∃ k : Nat, k ≤ zs.length ∧ i = .int .i64 k ∧ Hid ((zs.take k).Nodup)) (fun _ _ i => zs.length - (intOf i).toNat)
        case atStart => exact ⟨0, by omega, rfl, Lib.hid (by simp)⟩
        case round =>
          obtain ⟨k, hk, rfl, hnd⟩ := hrel
          by_cases hlt : k < zs.length
          · obtain ⟨ad, rfl, c1⟩ := ki_at hr k hlt
            have hns := Lib.hid (nodup_take_succI zs k hlt)
            have hkc : (k : Int) ≤ (c' : Int) := by omega
            have ht : Ri w2 (.slice (some ad) k c') (zs.take k) := ⟨_, c', by rw [List.length_take, Nat.min_eq_left hk], by rw [List.length_take]; omega, Kd.C_take hr hk⟩
            generalize zs.getD k 0 = x at *
            by_cases hm : x ∈ zs.take k
            · have hf : Hid (maE p d.length zs = 5) := Lib.hid (by
                unfold maE
                rw [if_neg (fun e => e g1.out), if_neg (by have := g2.out; omega), if_neg (by rw [g3.out]; simp), if_pos (fun h => (hns.out.1 (h.sublist (List.take_sublist _ _))).2 hm)])
              have hm := Lib.hid (decide_eq_true hm)
              go_wp2_with fail
              refine (iContains_c _ _ x _ ht).mono ?_
              rintro e w_ ⟨rfl, rfl⟩
              rw [hm.out]
              go_wp2
              go_ret
              rw [hf.out]
              exact ⟨rfl, hB⟩
            · have hf : Hid ((zs.take (k + 1)).Nodup) := Lib.hid (hns.out.2 ⟨hnd.out, hm⟩)
              have hm := Lib.hid (decide_eq_false hm)
              go_wp2_with fail
              refine (iContains_c _ _ x _ ht).mono ?_
              rintro e w_ ⟨rfl, rfl⟩
              rw [hm.out]
              go_wp2
              exact ⟨⟨k + 1, by omega, by go_num, hf⟩, by simp [intOf]; try omega⟩
          · obtain rfl : k = zs.length := by omega
            rw [List.take_length] at hnd
            have hf : Hid (maE p d.length zs = 0) := Lib.hid (by
              unfold maE
              rw [if_neg (fun e => e g1.out), if_neg (by have := g2.out; omega), if_neg (by rw [g3.out]; simp), if_neg (fun h => h hnd.out)])
            go_wp2
            go_ret
            rw [hf.out]
            exact ⟨rfl, hB⟩
  · have hf : Hid (maE p d.length zs = 3) := Lib.hid (by
      unfold maE
      rw [if_pos g1])
    have t1 : ((d.length : Int) != p.L) = true := bne_iff_ne.2 g1
    replace g1 := Lib.hid g1
    go_wp2
    go_ret
    rw [hf.out]
    exact ⟨rfl, hB⟩
set_option maxRecDepth 100000 in
set_option maxHeartbeats 1600000 in
theorem iClone_c (v : Value) (l : List Int) (w : World) (hv : Ri w v l) (hl : l.length ≤ 1000000) :
   Calls Try.prog 214 #[v] w fun e w' => ∃ z, e = .returned z ∧ Oi w w' z l ∧ Below w.heap.size w w' := by
  have hL := lit_ownI (w0 := w) (W := w) [] #[] rfl 0 rfl (by decide) (Nat.le_refl _)
  have hB := below_alloc (Below.refl w.heap.size w) (.cells #[] 3)
  have hv2 := hv.below hB
  obtain ⟨A, c, rfl, hc, hr⟩ := hv
  cases A with
  | none =>
    have h0 : l = [] := by
      rcases l with _ | ⟨x, l⟩
      · rfl
      · obtain ⟨ad, e, _⟩ := ki_at hr 0 (by simp)
        cases e
    subst h0
    have hnil : ∀ W, (binOp .eql 36 (.slice none 0 c) (.slice none 0 0)).run Try.prog W = .ok (.bool true) W := fun W => Lib.run_eql_slice_nil_nil W _ _ Try.underlying36
    go_enter Try.func214, Try.ntmps214
    go_wp2
    go_ret
    exact ⟨_, rfl, Own.nil _ _ _ _, Below.refl _ _⟩
  | some ad =>
    have hnil : ∀ W, (binOp .eql 36 (.slice (some ad) l.length c) (.slice none 0 0)).run Try.prog W = .ok (.bool false) W := fun W => Lib.run_eql_slice_some_nil W _ _ _ Try.underlying36
    go_enter Try.func214, Try.ntmps214
    go_wp2_with (at_builtin; refine app_many (enc := Value.int .i64) rfl (.tmp 5) (.tmp 6) 36 3 (.int .i64 0) 8 rfl Try.underlying36 infoI rfl (by decide) _ [] l _ rfl rfl hL hv2 hB ?hl ?_; (case hl => (simp; omega)); intro v1 w1 ho hb hg)
    go_ret
    exact ⟨_, rfl, ho, hb⟩
set_option maxRecDepth 100000 in
set_option maxHeartbeats 3200000 in
theorem filled_c (p : Pl) (h : p.Ok) (v : Value) (zs : List Int) (w : World) (hv : Ri w v zs) (hl : zs.length ≤ 1000) :
   Calls Try.prog 192 #[planV p, v] w fun e w' => ∃ z, e = .returned z ∧ Oi w w' z (fil p.T zs (allOf p)) ∧ Below w.heap.size w w' := by
  obtain ⟨T, L, N, eT, eL, eN, a1, a2, a3, a4⟩ := Pl.Ok.nats h
  have hN : Hid ((allOf p).length = N) := Lib.hid (by rw [all_len, eN]; rfl)
  clear eT eL eN
  have HP := Blk.new w (planC p) 33
  have hB := below_alloc (Below.refl w.heap.size w) (.cells (planC p) 33)
  have hv' := hv.below hB
  go_enter Try.func192, Try.ntmps192
  go_wp2_with fail
  generalize w.alloc (.cells (planC p) 33) = wB at *
  have hPx := Lib.hid HP
  have hBx := Lib.hid hB
  obtain ⟨c0, c1, c2, c3, c4, c5⟩ := cells6 HP
  refine (iClone_c _ _ _ hv' (by omega)).mono ?_
  rintro e w1 ⟨v1, rfl, hO, hb⟩
  obtain ⟨c0, c1, c2, c3, c4, c5⟩ := cells6 (HP.below hb)
  go_wp2_with fail
  refine (all_yes p h _).mono ?_
  rintro e w2 ⟨v2, rfl, oA, h2⟩
  obtain ⟨g, cA, rfl, hg0, hg1⟩ := oA.form (by rw [hN.out]; omega)
  have hne : Hid (v1.ownBlock ≠ some g) := Lib.hid (fun e => by have := oi_lt hO e; omega)
  have hO := hO.below h2
  have oA := oA.lower hb
  have hb := bt_ hb h2
  rw [hN.out] at oA ⊢
  clear h2 hg0 hg1 c0 c1 c2 c3 c4 c5 HP hB
  go_wp2_with fail
  go_loopw [5, 7, 13] (fun s _ i wr => ∃ k : Nat, k ≤ N ∧ i = .int .i64 k ∧ Oi wB wr s (fil p.T zs ((allOf p).take k)) ∧ Hid ((fil p.T zs ((allOf p).take k)).length ≤ 1000 + k) ∧ Oi wB wr (.slice (some ⟨g, 0, none⟩) N cA) (allOf p) ∧ Hid (s.ownBlock ≠ some g) ∧ Below wB.heap.size wB wr) (fun _ _ i _ => N - (intOf i).toNat)
  case atStart => exact ⟨0, by omega, rfl, hO, Lib.hid (by simpa [fil] using hl), oA, hne, hb⟩
  case round =>
    clear hO hne hb oA
    obtain ⟨k, hk, rfl, hO, hlen, oA, hne, hb⟩ := hrel
    by_cases hlt : k < N
    · obtain ⟨ad, e9, d0⟩ := ki_at (rk_C oA.rk) k (by rw [hN.out]; exact hlt)
      injection e9 with e9
      subst e9
      rw [add_plain] at d0
      obtain ⟨c0, c1, c2, c3, c4, c5⟩ := cells6 (hPx.out.below hb)
      have HS := Lib.hid (take_snoc' (allOf p) k 0 (by rw [hN.out]; exact hlt))
      have hF := Lib.hid (fil_snoc p.T zs ((allOf p).take k) ((allOf p).getD k 0))
      have hv := hv'.below hb
      have hgl := oi_lt oA rfl
      obtain ⟨A9, n9, rfl⟩ := rk_form hO.rk
      generalize (allOf p).getD k 0 = i at *
      generalize hout : fil p.T zs ((allOf p).take k) = out at *
      have hlo := hlen.out
      by_cases t1 : (out.length : Int) < p.T
      · have t2 := Lib.hid (decide_eq_true t1)
        by_cases hm : i ∈ zs
        · have hm2 := Lib.hid (decide_eq_true hm)
          have hf : Hid (fil p.T zs ((allOf p).take (k + 1)) = out) := Lib.hid (by rw [HS.out, hF.out, if_neg (fun e => e.2 hm)])
          clear hm HS hF
          go_wp2_with fail
          refine (iContains_c _ _ i _ hv).mono ?_
          rintro e w_ ⟨rfl, rfl⟩
          rw [hm2.out]
          go_wp2
          exact ⟨⟨k + 1, by omega, by go_num, by rw [hf.out]; exact hO, Lib.hid (by rw [hf.out]; omega), oA, hne, hb⟩, by simp [intOf]; try omega⟩
        · have hm2 := Lib.hid (decide_eq_false hm)
          have hf : Hid (fil p.T zs ((allOf p).take (k + 1)) = out ++ [i]) := Lib.hid (by rw [HS.out, hF.out, if_pos ⟨t1, hm⟩])
          clear hm HS hF
          go_wp2_with fail
          refine (iContains_c _ _ i _ hv).mono ?_
          rintro e w_ ⟨rfl, rfl⟩
          rw [hm2.out]
          go_wp2_with (at_builtin; refine app_int rfl (.tmp 28) (.tmp 30) rfl _ out i rfl rfl hO hb ?hl ?_; (case hl => omega); intro v1 w1 ho hb hg hn)
          exact ⟨⟨k + 1, by omega, by go_num, by rw [hf.out]; exact ho, Lib.hid (by rw [hf.out, List.length_append, List.length_singleton]; omega), oi_grown oA hg hne.out, Lib.hid (hn g hgl hne.out), hb⟩, by simp [intOf]; try omega⟩
      · have t2 := Lib.hid (decide_eq_false t1)
        have hf : Hid (fil p.T zs ((allOf p).take (k + 1)) = out) := Lib.hid (by rw [HS.out, hF.out, if_neg (fun e => t1 e.1)])
        clear HS hF
        go_wp2
        exact ⟨⟨k + 1, by omega, by go_num, by rw [hf.out]; exact hO, Lib.hid (by rw [hf.out]; omega), oA, hne, hb⟩, by simp [intOf]; try omega⟩
    · obtain rfl : k = N := by omega
      rw [List.take_of_length_le (by rw [hN.out]; omega)] at hO
      go_wp2
      go_ret
      exact ⟨_, rfl, hO.lower hBx.out, bt_ hBx.out hb⟩
/-! ### sized, Shift -/
set_option maxRecDepth 100000 in
set_option maxHeartbeats 1600000 in
theorem sized_c (v : Value) (l : List F) (n : Nat) (w : World) (hv : Rb w v l) (hn : n ≤ 1000000) :
   Calls Try.prog 194 #[v, .int .i64 (n : Int)] w fun e w' => ∃ z, e = .returned z ∧ Ob w w' z (szd l n) ∧ Below w.heap.size w w' := by
  have hB := Below.refl w.heap.size w
  obtain ⟨A, c, rfl, hc, hr⟩ := hv
  go_enter Try.func194, Try.ntmps194
  go_wp2_with (first | ((with_reducible refine gate_dst (N := 7) rfl ?_); refine mk_len kb rfl (N := 7) rfl 40 5 _ _ rfl _ rfl rfl Try.underlying40 (.int .u8 0) 1 infoB rfl Nat.one_pos (by decide) (0 : F) rfl ?h0 ?hl hB ?_; (case h0 => omega); (case hl => omega); intro v1 w1 ho hb hg) | ((with_reducible refine gate_dst (N := 10) rfl ?_); refine halt ?_) | fail)
  refine ⟨?_⟩
  have hO := ho
  have hB := hb
  clear ho hb hg
  rw [Int.toNat_natCast] at hO
  refine Kd.R_copy (0 : F) (enc := bV) (h1 := fun _ => rfl) (w0 := w) w.heap.size rfl (.tmp 8) (.tmp 9) 40 40 5 rfl Try.underlying40 infoC _ _ _ _ _ _ T_ rfl rfl hO (Kd.C_below hr hB) hB (hB).size ?_
  intro w1 ho hb hg
  replace ho : Ob w w1 v1 _ := ho
  rw [List.length_replicate, szd_copy] at ho
  go_wp2
  go_ret
  exact ⟨_, rfl, ho, hb⟩
set_option maxRecDepth 100000 in
set_option maxHeartbeats 1600000 in
theorem mShift_no (b : Nat) (p : Pl) (h : ¬ p.Ok) (v u : Value) (w : World) :
   Calls Try.prog 137 #[fp b, planV p, v, u] w fun e w' => e = .returned (.tuple #[.slice none 0 0, .int .i64 1]) ∧ Below w.heap.size w w' := by
  have HP := Blk.new w (planC p) 33
  have hB := below_alloc (Below.refl w.heap.size w) (.cells (planC p) 33)
  go_enter Try.func137, Try.ntmps137
  go_wp2_with fail
  refine (mCheck_no p h _ _ _).mono ?_
  rintro e w1 ⟨rfl, h1⟩
  go_wp2
  go_ret2
  exact ⟨rfl, bt_ hB h1⟩
set_option maxRecDepth 100000 in
set_option maxHeartbeats 1600000 in
theorem mShift_bad (b : Nat) (p : Pl) (h : p.Ok) (v u : Value) (d : List F) (zs : List Int) (w : World) (hv : Rb w v d) (hu : Ri w u zs) (ha : maE p d.length zs ≠ 0) :
   Calls Try.prog 137 #[fp b, planV p, v, u] w fun e w' => e = .returned (.tuple #[.slice none 0 0, .int .i64 (maE p d.length zs)]) ∧ Below w.heap.size w w' := by
  have t9 : (maE p d.length zs != 0) = true := bne_iff_ne.2 ha
  have HP := Blk.new w (planC p) 33
  have hB := below_alloc (Below.refl w.heap.size w) (.cells (planC p) 33)
  have hv := hv.below hB
  have hu := hu.below hB
  go_enter Try.func137, Try.ntmps137
  go_wp2_with fail
  refine (mCheck_c p h _ _ d zs _ hv hu).mono ?_
  rintro e w1 ⟨rfl, h1⟩
  go_wp2
  go_ret2
  exact ⟨rfl, bt_ hB h1⟩
theorem ma_zero {p : Pl} {d : Nat} {zs : List Int} (h : maE p d zs = 0) : (d : Int) = p.L ∧ (zs.length : Int) ≤ p.T ∧ zs.Nodup ∧ ∀ i ∈ zs, 1 ≤ i ∧ i ≤ p.N := by
  unfold maE at h
  by_cases h1 : (d : Int) = p.L
  · rw [if_neg (fun e => e h1)] at h
    by_cases h2 : p.T < (zs.length : Int)
    · rw [if_pos h2] at h; exact absurd h (by decide)
    rw [if_neg h2] at h
    by_cases h3 : zs.any (bad0 p) = true
    · rw [if_pos h3] at h; exact absurd h (by decide)
    rw [if_neg h3] at h
    by_cases h4 : zs.Nodup
    · refine ⟨h1, by omega, h4, fun i hi => ?_⟩
      refine Classical.byContradiction fun hc => h3 (List.any_eq_true.2 ⟨i, hi, ?_⟩)
      unfold bad0
      rw [decide_eq_false hc]
      rfl
    · rw [if_pos h4] at h; exact absurd h (by decide)
  · rw [if_pos h1] at h; exact absurd h (by decide)
set_option maxRecDepth 100000 in
set_option maxHeartbeats 3200000 in
theorem mShift_ok (b : Nat) (p : Pl) (h : p.Ok) (hK : p.T + p.L < 255) (v u : Value) (d : List F) (zs : List Int) (w : World) (hF : IsField w b) (hv : Rb w v d) (hu : Ri w u zs) (ha : maE p d.length zs = 0) :
   Calls Try.prog 137 #[fp b, planV p, v, u] w fun e w' => ∃ z, e = .returned (.tuple #[z, .int .i64 0]) ∧ Ob w w' z (shOf p d zs) ∧ Below w.heap.size w w' := by
  have hz := Lib.hid (ma_zero ha)
  have hl1 : zs.length ≤ 1000 := by have := hz.out.2.1; have := h.l; omega
  have hxl := Lib.hid (shXs_len p h zs hz.out.2.1)
  have hnd := Lib.hid (shXs_nodup p h zs hz.out.2.2.1 hz.out.2.2.2)
  have hfl := Lib.hid (fil_full p h zs hz.out.2.1)
  have hsl := Lib.hid (secrets_len p)
  have hx : Hid (secretsAt p ++ (fil p.T zs (allOf p)).map point = shXs p zs) := Lib.hid rfl
  have hx2 : (shXs p zs).length ≤ 1000 := by have := hxl.out; omega
  have hfl2 : Hid ((fil p.T zs (allOf p)).length < 1000000) := Lib.hid (by have := hfl.out; have := h.l; omega)
  have hl8 : Hid ((secretsAt p).length + ((fil p.T zs (allOf p)).map point).length ≤ 1000000000) := Lib.hid (by rw [← List.length_append, hx.out]; omega)
  have hL1 : Hid ((shXs p zs).length = (szd d (shXs p zs).length).length) := Lib.hid (szd_len _ _).symm
  have hL2 : Hid (d.length ≤ (shXs p zs).length) := Lib.hid (by have := hxl.out; have := h.t; have := hz.out.1; omega)
  replace ha := Lib.hid ha
  clear hxl hsl hfl
  have HP := Blk.new w (planC p) 33
  have hB := below_alloc (Below.refl w.heap.size w) (.cells (planC p) 33)
  have hv := hv.below hB
  obtain ⟨Ad, cd, rfl, hcd, hrd⟩ := hv
  have hv : Rb _ (.slice Ad d.length cd) d := ⟨Ad, cd, rfl, hcd, hrd⟩
  have hu := hu.below hB
  have hF := hF.below hB
  go_enter Try.func137, Try.ntmps137
  go_wp2_with fail
  generalize w.alloc (.cells (planC p) 33) = wB at *
  have hPx := Lib.hid HP
  have hBx := Lib.hid hB
  have hFx := Lib.hid hF
  have hvx := Lib.hid hv
  have hB := Below.refl wB.heap.size wB
  obtain ⟨c0, c1, c2, c3, c4, c5⟩ := cells6 HP
  refine (mCheck_c p h _ _ d zs _ hv hu).mono ?_
  rintro e w1 ⟨rfl, h1⟩
  rw [ha.out]
  have HP := HP.below h1
  have hB := bt_ hB h1
  obtain ⟨c0, c1, c2, c3, c4, c5⟩ := cells6 HP
  have hu := hu.below h1
  clear h1 hv hF
  go_wp2_with fail
  go_region_held3 (fun w' => w'.cell? ⟨w.heap.size, 0, none⟩ = some (.int .i64 p.N) ∧ w'.cell? ⟨w.heap.size, 1, none⟩ = some (.int .i64 p.T) ∧ w'.cell? ⟨w.heap.size, 2, none⟩ = some (.int .i64 p.L) ∧ w'.cell? ⟨w.heap.size, 3, none⟩ = some (.int .i64 p.W) ∧ w'.cell? ⟨w.heap.size, 4, none⟩ = some (.int .i64 p.S) ∧ w'.cell? ⟨w.heap.size, 5, none⟩ = some (.int .i64 p.R))
    (go_keep)
    (first
    | (go_at_call 55; refine (secrets_yes p h _).mono ?_; rintro e w6 ⟨vS, rfl, sS, h6⟩; replace sS := sS.lower (by first | exact hB | exact below_drew hB); (try replace h6 := bu h6); have hu := hu.below h6; (try replace h6 := bu h6); have HP := HP.below h6; obtain ⟨c0, c1, c2, c3, c4, c5⟩ := cells6 HP; have hB := bt_ hB h6)
    | (go_at_call 192; refine (filled_c p h _ zs _ hu hl1).mono ?_; rintro e w6 ⟨vZ, rfl, sZ, h6⟩; have sS := sS.below h6; replace sZ := sZ.rk; (try replace h6 := bu h6); have HP := HP.below h6; obtain ⟨c0, c1, c2, c3, c4, c5⟩ := cells6 HP; have hB := bt_ hB h6)
    | (go_at_call 54; refine (points_c _ _ _ sZ hfl2.out).mono ?_; rintro e w6 ⟨vP, rfl, sP, h6⟩; have sS := sS.below h6; replace sP := sP.rk; (try replace h6 := bu h6); have HP := HP.below h6; obtain ⟨c0, c1, c2, c3, c4, c5⟩ := cells6 HP; have hB := bt_ hB h6)
    | (refine step_app_yy (w0 := wB) (by rfl) (.tmp 23) (.tmp 27) (by rfl) _ _ _ _ (by rfl) (by rfl) sS sP hB hl8.out ?_; intro v8 w8 hO8 hB8 hg8; obtain ⟨c0, c1, c2, c3, c4, c5⟩ := cells6 (hPx.out.below hB8))
    | fail)
  rw [hx.out] at hO8
  have hfy := hFx.out.below hB8
  have hrd := Kd.C_below hrd hB8
  obtain ⟨A8, c8, rfl⟩ := rk_form hO8.rk
  clear sS sP sZ hB hu hPx hg8
  have hB := Below.refl w8.heap.size w8
  go_wp2_with (first | ((with_reducible refine gate_dst (N := 31) rfl ?_); refine mk_len kb rfl (N := 31) rfl 40 5 _ _ rfl _ rfl rfl Try.underlying40 (.int .u8 0) 1 infoB rfl Nat.one_pos (by decide) (0 : F) rfl ?h0 ?hl hB ?_; (case h0 => omega); (case hl => omega); intro v1 w1 ho hb hg) | ((with_reducible refine gate_dst (N := 34) rfl ?_); refine halt ?_) | fail)
  refine ⟨?_⟩
  have hO := ho
  have hB := hb
  clear ho hb hg
  rw [Int.toNat_natCast] at hO
  refine Kd.R_copy (0 : F) (enc := bV) (h1 := fun _ => rfl) (w0 := w8) (w8).heap.size rfl (.tmp 32) (.tmp 33) 40 40 5 rfl Try.underlying40 infoC _ _ _ _ _ _ T_ rfl rfl hO (Kd.C_below hrd hB) hB (hB).size ?_
  intro w1 ho hb hg
  replace ho : Ob w8 w1 v1 _ := ho
  rw [List.length_replicate, szd_copy] at ho
  have sX := hO8.rk.below hb
  go_wp2_with fail
  refine (through_yes b _ _ (shXs p zs) (szd d (shXs p zs).length) _ (hfy.below hb) sX ho.rk hL1.out hnd.out hx2).mono ?_
  rintro e w9 ⟨z, rfl, oz, h9⟩
  go_wp2
  go_ret2
  exact ⟨_, rfl, (oz.lower hb).lower hB8 |>.lower hBx.out, bt_ hBx.out (bt_ hB8 (bt_ hb h9))⟩
end Go.Proofs.Ytijeabhfddaoaaa
