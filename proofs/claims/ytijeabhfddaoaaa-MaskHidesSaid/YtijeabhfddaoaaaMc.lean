/- Several texts of this seat, one behind the other. -/
import Derived.Test.YtijeabhfddaoaaaK7
import Derived.Test.YtijeabhfddaoaaaM11
import Derived.Test.YtijeabhfddaoaaaBl
import Derived.Test.YtijeabhfddaoaaaBf
import Derived.Test.YtijeabhfddaoaaaLa
import Derived.Lib.BufferMore
/- The walks of package mask: check, filled, Shift. -/
namespace Go.Proofs.Ytijeabhfddaoaaa
set_option linter.unusedVariables false
open Go.RowKit Go.Proofs.YtijeabhfddaoaaaW.PrintWords Go.Proofs.Sh

def bad0 (p : Pl) (i : Int) : Bool := !decide (1 ≤ i ∧ i ≤ p.N)
/-- What is wrong with bytes and custodians; 0: nothing. -/
def maE (p : Pl) (d : Nat) (zs : List Int) : Int := if (d : Int) ≠ p.L then 3 else if p.T < (zs.length : Int) then 2 else if zs.any (bad0 p) = true then 2 else if ¬ zs.Nodup then 5 else 0
theorem mClos_c (p : Pl) (h : p.Ok) (b : Nat) (i : Int) (w : World) (HP : Blk w b (planC p) 33) :
   Calls Try.prog 213 #[.int .i64 i, .pointer (some ⟨b, 0, none⟩)] w fun e w' => e = .returned (.bool (bad0 p i)) ∧ Below w.heap.size w w' := by
  have hb : Hid (bad0 p i = !decide (1 ≤ i ∧ i ≤ p.N)) := Lib.hid rfl
  obtain ⟨c0, c1, c2, c3, c4, c5⟩ := cells6 HP
  have hi := fun w => is_yes p h i w
  generalize decide (1 ≤ i ∧ i ≤ p.N) = bb at *
  replace hi := Lib.hid hi
  go_enter Try.func213, Try.ntmps213
  go_wp2_with fail
  refine (hi.out _).mono ?_
  rintro e w2 ⟨rfl, h2⟩
  go_wp2
  go_ret
  rw [hb.out]
  exact ⟨rfl, h2⟩
set_option maxRecDepth 100000 in
set_option maxHeartbeats 1600000 in
theorem mCheck_no (p : Pl) (h : ¬ p.Ok) (v u : Value) (w : World) :
   Calls Try.prog 191 #[planV p, v, u] w fun e w' => e = .returned (.int .i64 1) ∧ Below w.heap.size w w' := by
  have HP := Blk.new w (planC p) 33
  have hB := below_alloc (Below.refl w.heap.size w) (.cells (planC p) 33)
  go_enter Try.func191, Try.ntmps191
  go_wp2_with fail
  refine (right_no p h _).mono ?_
  rintro e w1 ⟨rfl, h1⟩
  go_wp2
  go_ret
  exact ⟨rfl, bt_ hB h1⟩
set_option maxRecDepth 100000 in
set_option maxHeartbeats 3200000 in
theorem mCheck_c (p : Pl) (h : p.Ok) (v u : Value) (d : List F) (zs : List Int) (w : World) (hv : Rb w v d) (hu : Ri w u zs) :
   Calls Try.prog 191 #[planV p, v, u] w fun e w' => e = .returned (.int .i64 (maE p d.length zs)) ∧ Below w.heap.size w w' := by
  have HP := Blk.new w (planC p) 33
  have hB := below_alloc (Below.refl w.heap.size w) (.cells (planC p) 33)
  obtain ⟨A, c, rfl, hc, hr⟩ := hv
  have hld := kb_len hr
  have hu := hu.below hB
  obtain ⟨B, c', rfl, hc', hr'⟩ := hu
  have hlz := ri_len hr'
  have hu : Ri _ (.slice B zs.length c') zs := ⟨B, c', rfl, hc', hr'⟩
  go_enter Try.func191, Try.ntmps191
  go_wp2_with fail
  refine (right_yes p h _).mono ?_
  rintro e w1 ⟨rfl, h1⟩
  have HP := HP.below h1
  have hB := bt_ hB h1
  obtain ⟨c0, c1, c2, c3, c4, c5⟩ := cells6 HP
  have hu := hu.below h1
  clear h1 hr hr' hc
  by_cases g1 : (d.length : Int) = p.L
  · have t1 : ((d.length : Int) != p.L) = false := by rw [g1]; simp
    replace g1 := Lib.hid g1
    by_cases g2 : p.T < (zs.length : Int)
    · have hf : Hid (maE p d.length zs = 2) := Lib.hid (by
        unfold maE
        rw [if_neg (fun e => e g1.out), if_pos g2])
      have t2 : decide (p.T < (zs.length : Int)) = true := decide_eq_true g2
      go_wp2
      go_ret
      rw [hf.out]
      exact ⟨rfl, hB⟩
    · have t2 : decide (p.T < (zs.length : Int)) = false := decide_eq_false g2
      replace g2 := Lib.hid g2
      by_cases g3 : zs.any (bad0 p) = true
      · have hf : Hid (maE p d.length zs = 2) := Lib.hid (by
          unfold maE
          rw [if_neg (fun e => e g1.out), if_neg (by have := g2.out; omega), if_pos g3])
        replace g3 := Lib.hid g3
        have hst := Lib.hid (fun i wr hwr => mClos_c p h _ i wr (HP.below hwr))
        go_wp2_with fail
        refine (cfInts_mask _ (bad0 p) _ zs _ hu hst.out).mono ?_
        rintro e w2 ⟨rfl, h2⟩
        rw [g3.out]
        go_wp2
        go_ret
        rw [hf.out]
        exact ⟨rfl, bt_ hB h2⟩
      · replace g3 : Hid (zs.any (bad0 p) = false) := Lib.hid (by simpa using g3)
        have hst := Lib.hid (fun i wr hwr => mClos_c p h _ i wr (HP.below hwr))
        go_wp2_with fail
        refine (cfInts_mask _ (bad0 p) _ zs _ hu hst.out).mono ?_
        rintro e w2 ⟨rfl, h2⟩
        rw [g3.out]
        have hB := bt_ hB h2
        have hu := hu.below h2
        have hr := rk_C hu
        clear h2 HP c0 c1 c2 c3 c4 c5
        go_wp2_with fail
        go_loop [7, 8, 32] (fun _ _ i => ∃ k : Nat, k ≤ zs.length ∧ i = .int .i64 k ∧ Hid ((zs.take k).Nodup)) (fun _ _ i => zs.length - (intOf i).toNat)
        case atStart => exact ⟨0, by omega, rfl, Lib.hid (by simp)⟩
        case round =>
          obtain ⟨k, hk, rfl, hnd⟩ := hrel
          by_cases hlt : k < zs.length
          · obtain ⟨ad, rfl, c1⟩ := ki_at hr k hlt
            have hns := Lib.hid (nodup_take_succI zs k hlt)
            have hkc : (k : Int) ≤ (c' : Int) := by omega
            have ht : Ri w2 (.slice (some ad) k c') (zs.take k) := ⟨_, c', by rw [List.length_take, Nat.min_eq_left hk], by rw [List.length_take]; omega, Kd.C_take hr hk⟩
            generalize zs.getD k 0 = x at *
            by_cases hm : x ∈ zs.take k
            · have hf : Hid (maE p d.length zs = 5) := Lib.hid (by
                unfold maE
                rw [if_neg (fun e => e g1.out), if_neg (by have := g2.out; omega), if_neg (by rw [g3.out]; simp), if_pos (fun h => (hns.out.1 (h.sublist (List.take_sublist _ _))).2 hm)])
              have hm := Lib.hid (decide_eq_true hm)
              go_wp2_with fail
              refine (iContains_c _ _ x _ ht).mono ?_
              rintro e w_ ⟨rfl, rfl⟩
              rw [hm.out]
              go_wp2
              go_ret
              rw [hf.out]
              exact ⟨rfl, hB⟩
            · have hf : Hid ((zs.take (k + 1)).Nodup) := Lib.hid (hns.out.2 ⟨hnd.out, hm⟩)
              have hm := Lib.hid (decide_eq_false hm)
              go_wp2_with fail
              refine (iContains_c _ _ x _ ht).mono ?_
              rintro e w_ ⟨rfl, rfl⟩
              rw [hm.out]
              go_wp2
              exact ⟨⟨k + 1, by omega, by go_num, hf⟩, by simp [intOf]; try omega⟩
          · obtain rfl : k = zs.length := by omega
            rw [List.take_length] at hnd
            have hf : Hid (maE p d.length zs = 0) := Lib.hid (by
              unfold maE
              rw [if_neg (fun e => e g1.out), if_neg (by have := g2.out; omega), if_neg (by rw [g3.out]; simp), if_neg (fun h => h hnd.out)])
            go_wp2
            go_ret
            rw [hf.out]
            exact ⟨rfl, hB⟩
  · have hf : Hid (maE p d.length zs = 3) := Lib.hid (by
      unfold maE
      rw [if_pos g1])
    have t1 : ((d.length : Int) != p.L) = true := bne_iff_ne.2 g1
    replace g1 := Lib.hid g1
    go_wp2
    go_ret
    rw [hf.out]
    exact ⟨rfl, hB⟩
set_option maxRecDepth 100000 in
set_option maxHeartbeats 1600000 in
theorem iClone_c (v : Value) (l : List Int) (w : World) (hv : Ri w v l) (hl : l.length ≤ 1000000) :
   Calls Try.prog 214 #[v] w fun e w' => ∃ z, e = .returned z ∧ Oi w w' z l ∧ Below w.heap.size w w' := by
  have hL := lit_ownI (w0 := w) (W := w) [] #[] rfl 0 rfl (by decide) (Nat.le_refl _)
  have hB := below_alloc (Below.refl w.heap.size w) (.cells #[] 3)
  have hv2 := hv.below hB
  obtain ⟨A, c, rfl, hc, hr⟩ := hv
  cases A with
  | none =>
    have h0 : l = [] := by
      rcases l with _ | ⟨x, l⟩
      · rfl
      · obtain ⟨ad, e, _⟩ := ki_at hr 0 (by simp)
        cases e
    subst h0
    have hnil : ∀ W, (binOp .eql 36 (.slice none 0 c) (.slice none 0 0)).run Try.prog W = .ok (.bool true) W := fun W => Lib.run_eql_slice_nil_nil W _ _ Try.underlying36
    go_enter Try.func214, Try.ntmps214
    go_wp2
    go_ret
    exact ⟨_, rfl, Own.nil _ _ _ _, Below.refl _ _⟩
  | some ad =>
    have hnil : ∀ W, (binOp .eql 36 (.slice (some ad) l.length c) (.slice none 0 0)).run Try.prog W = .ok (.bool false) W := fun W => Lib.run_eql_slice_some_nil W _ _ _ Try.underlying36
    go_enter Try.func214, Try.ntmps214
    go_wp2_with (at_builtin; refine app_many (enc := Value.int .i64) rfl (.tmp 5) (.tmp 6) 36 3 (.int .i64 0) 8 rfl Try.underlying36 infoI rfl (by decide) _ [] l _ rfl rfl hL hv2 hB ?hl ?_; (case hl => (simp; omega)); intro v1 w1 ho hb hg)
    go_ret
    exact ⟨_, rfl, ho, hb⟩
set_option maxRecDepth 100000 in
set_option maxHeartbeats 3200000 in
theorem filled_c (p : Pl) (h : p.Ok) (v : Value) (zs : List Int) (w : World) (hv : Ri w v zs) (hl : zs.length ≤ 1000) :
   Calls Try.prog 192 #[planV p, v] w fun e w' => ∃ z, e = .returned z ∧ Oi w w' z (fil p.T zs (allOf p)) ∧ Below w.heap.size w w' := by
  obtain ⟨T, L, N, eT, eL, eN, a1, a2, a3, a4⟩ := Pl.Ok.nats h
  have hN : Hid ((allOf p).length = N) := Lib.hid (by rw [all_len, eN]; rfl)
  clear eT eL eN
  have HP := Blk.new w (planC p) 33
  have hB := below_alloc (Below.refl w.heap.size w) (.cells (planC p) 33)
  have hv' := hv.below hB
  go_enter Try.func192, Try.ntmps192
  go_wp2_with fail
  generalize w.alloc (.cells (planC p) 33) = wB at *
  have hPx := Lib.hid HP
  have hBx := Lib.hid hB
  obtain ⟨c0, c1, c2, c3, c4, c5⟩ := cells6 HP
  refine (iClone_c _ _ _ hv' (by omega)).mono ?_
  rintro e w1 ⟨v1, rfl, hO, hb⟩
  obtain ⟨c0, c1, c2, c3, c4, c5⟩ := cells6 (HP.below hb)
  go_wp2_with fail
  refine (all_yes p h _).mono ?_
  rintro e w2 ⟨v2, rfl, oA, h2⟩
  obtain ⟨g, cA, rfl, hg0, hg1⟩ := oA.form (by rw [hN.out]; omega)
  have hne : Hid (v1.ownBlock ≠ some g) := Lib.hid (fun e => by have := oi_lt hO e; omega)
  have hO := hO.below h2
  have oA := oA.lower hb
  have hb := bt_ hb h2
  rw [hN.out] at oA ⊢
  clear h2 hg0 hg1 c0 c1 c2 c3 c4 c5 HP hB
  go_wp2_with fail
  go_loopw [5, 7, 13] (fun s _ i wr => ∃ k : Nat, k ≤ N ∧ i = .int .i64 k ∧ Oi wB wr s (fil p.T zs ((allOf p).take k)) ∧ Hid ((fil p.T zs ((allOf p).take k)).length ≤ 1000 + k) ∧ Oi wB wr (.slice (some ⟨g, 0, none⟩) N cA) (allOf p) ∧ Hid (s.ownBlock ≠ some g) ∧ Below wB.heap.size wB wr) (fun _ _ i _ => N - (intOf i).toNat)
  case atStart => exact ⟨0, by omega, rfl, hO, Lib.hid (by simpa [fil] using hl), oA, hne, hb⟩
  case round =>
    clear hO hne hb oA
    obtain ⟨k, hk, rfl, hO, hlen, oA, hne, hb⟩ := hrel
    by_cases hlt : k < N
    · obtain ⟨ad, e9, d0⟩ := ki_at (rk_C oA.rk) k (by rw [hN.out]; exact hlt)
      injection e9 with e9
      subst e9
      rw [add_plain] at d0
      obtain ⟨c0, c1, c2, c3, c4, c5⟩ := cells6 (hPx.out.below hb)
      have HS := Lib.hid (take_snoc' (allOf p) k 0 (by rw [hN.out]; exact hlt))
      have hF := Lib.hid (fil_snoc p.T zs ((allOf p).take k) ((allOf p).getD k 0))
      have hv := hv'.below hb
      have hgl := oi_lt oA rfl
      obtain ⟨A9, n9, rfl⟩ := rk_form hO.rk
      generalize (allOf p).getD k 0 = i at *
      generalize hout : fil p.T zs ((allOf p).take k) = out at *
      have hlo := hlen.out
      by_cases t1 : (out.length : Int) < p.T
      · have t2 := Lib.hid (decide_eq_true t1)
        by_cases hm : i ∈ zs
        · have hm2 := Lib.hid (decide_eq_true hm)
          have hf : Hid (fil p.T zs ((allOf p).take (k + 1)) = out) := Lib.hid (by rw [HS.out, hF.out, if_neg (fun e => e.2 hm)])
          clear hm HS hF
          go_wp2_with fail
          refine (iContains_c _ _ i _ hv).mono ?_
          rintro e w_ ⟨rfl, rfl⟩
          rw [hm2.out]
          go_wp2
          exact ⟨⟨k + 1, by omega, by go_num, by rw [hf.out]; exact hO, Lib.hid (by rw [hf.out]; omega), oA, hne, hb⟩, by simp [intOf]; try omega⟩
        · have hm2 := Lib.hid (decide_eq_false hm)
          have hf : Hid (fil p.T zs ((allOf p).take (k + 1)) = out ++ [i]) := Lib.hid (by rw [HS.out, hF.out, if_pos ⟨t1, hm⟩])
          clear hm HS hF
          go_wp2_with fail
          refine (iContains_c _ _ i _ hv).mono ?_
          rintro e w_ ⟨rfl, rfl⟩
          rw [hm2.out]
          go_wp2_with (at_builtin; refine app_int rfl (.tmp 28) (.tmp 30) rfl _ out i rfl rfl hO hb ?hl ?_; (case hl => omega); intro v1 w1 ho hb hg hn)
          exact ⟨⟨k + 1, by omega, by go_num, by rw [hf.out]; exact ho, Lib.hid (by rw [hf.out, List.length_append, List.length_singleton]; omega), oi_grown oA hg hne.out, Lib.hid (hn g hgl hne.out), hb⟩, by simp [intOf]; try omega⟩
      · have t2 := Lib.hid (decide_eq_false t1)
        have hf : Hid (fil p.T zs ((allOf p).take (k + 1)) = out) := Lib.hid (by rw [HS.out, hF.out, if_neg (fun e => t1 e.1)])
        clear HS hF
        go_wp2
        exact ⟨⟨k + 1, by omega, by go_num, by rw [hf.out]; exact hO, Lib.hid (by rw [hf.out]; omega), oA, hne, hb⟩, by simp [intOf]; try omega⟩
    · obtain rfl : k = N := by omega
      rw [List.take_of_length_le (by rw [hN.out]; omega)] at hO
      go_wp2
      go_ret
      exact ⟨_, rfl, hO.lower hBx.out, bt_ hBx.out hb⟩
/-! ### sized, Shift -/
set_option maxRecDepth 100000 in
set_option maxHeartbeats 1600000 in
theorem sized_c (v : Value) (l : List F) (n : Nat) (w : World) (hv : Rb w v l) (hn : n ≤ 1000000) :
   Calls Try.prog 194 #[v, .int .i64 (n : Int)] w fun e w' => ∃ z, e = .returned z ∧ Ob w w' z (szd l n) ∧ Below w.heap.size w w' := by
  have hB := Below.refl w.heap.size w
  obtain ⟨A, c, rfl, hc, hr⟩ := hv
  go_enter Try.func194, Try.ntmps194
  go_wp2_with (first | ((with_reducible refine gate_dst (N := 7) rfl ?_); refine mk_len kb rfl (N := 7) rfl 40 5 _ _ rfl _ rfl rfl Try.underlying40 (.int .u8 0) 1 infoB rfl Nat.one_pos (by decide) (0 : F) rfl ?h0 ?hl hB ?_; (case h0 => omega); (case hl => omega); intro v1 w1 ho hb hg) | ((with_reducible refine gate_dst (N := 10) rfl ?_); refine halt ?_) | fail)
  refine ⟨?_⟩
  have hO := ho
  have hB := hb
  clear ho hb hg
  rw [Int.toNat_natCast] at hO
  refine Kd.R_copy (0 : F) (enc := bV) (h1 := fun _ => rfl) (w0 := w) w.heap.size rfl (.tmp 8) (.tmp 9) 40 40 5 rfl Try.underlying40 infoC _ _ _ _ _ _ T_ rfl rfl hO (Kd.C_below hr hB) hB (hB).size ?_
  intro w1 ho hb hg
  replace ho : Ob w w1 v1 _ := ho
  rw [List.length_replicate, szd_copy] at ho
  go_wp2
  go_ret
  exact ⟨_, rfl, ho, hb⟩
set_option maxRecDepth 100000 in
set_option maxHeartbeats 1600000 in
theorem mShift_no (b : Nat) (p : Pl) (h : ¬ p.Ok) (v u : Value) (w : World) :
   Calls Try.prog 137 #[fp b, planV p, v, u] w fun e w' => e = .returned (.tuple #[.slice none 0 0, .int .i64 1]) ∧ Below w.heap.size w w' := by
  have HP := Blk.new w (planC p) 33
  have hB := below_alloc (Below.refl w.heap.size w) (.cells (planC p) 33)
  go_enter Try.func137, Try.ntmps137
  go_wp2_with fail
  refine (mCheck_no p h _ _ _).mono ?_
  rintro e w1 ⟨rfl, h1⟩
  go_wp2
  go_ret2
  exact ⟨rfl, bt_ hB h1⟩
set_option maxRecDepth 100000 in
set_option maxHeartbeats 1600000 in
theorem mShift_bad (b : Nat) (p : Pl) (h : p.Ok) (v u : Value) (d : List F) (zs : List Int) (w : World) (hv : Rb w v d) (hu : Ri w u zs) (ha : maE p d.length zs ≠ 0) :
   Calls Try.prog 137 #[fp b, planV p, v, u] w fun e w' => e = .returned (.tuple #[.slice none 0 0, .int .i64 (maE p d.length zs)]) ∧ Below w.heap.size w w' := by
  have t9 : (maE p d.length zs != 0) = true := bne_iff_ne.2 ha
  have HP := Blk.new w (planC p) 33
  have hB := below_alloc (Below.refl w.heap.size w) (.cells (planC p) 33)
  have hv := hv.below hB
  have hu := hu.below hB
  go_enter Try.func137, Try.ntmps137
  go_wp2_with fail
  refine (mCheck_c p h _ _ d zs _ hv hu).mono ?_
  rintro e w1 ⟨rfl, h1⟩
  go_wp2
  go_ret2
  exact ⟨rfl, bt_ hB h1⟩
theorem ma_zero {p : Pl} {d : Nat} {zs : List Int} (h : maE p d zs = 0) : (d : Int) = p.L ∧ (zs.length : Int) ≤ p.T ∧ zs.Nodup ∧ ∀ i ∈ zs, 1 ≤ i ∧ i ≤ p.N := by
  unfold maE at h
  by_cases h1 : (d : Int) = p.L
  · rw [if_neg (fun e => e h1)] at h
    by_cases h2 : p.T < (zs.length : Int)
    · rw [if_pos h2] at h; exact absurd h (by decide)
    rw [if_neg h2] at h
    by_cases h3 : zs.any (bad0 p) = true
    · rw [if_pos h3] at h; exact absurd h (by decide)
    rw [if_neg h3] at h
    by_cases h4 : zs.Nodup
    · refine ⟨h1, by omega, h4, fun i hi => ?_⟩
      refine Classical.byContradiction fun hc => h3 (List.any_eq_true.2 ⟨i, hi, ?_⟩)
      unfold bad0
      rw [decide_eq_false hc]
      rfl
    · rw [if_pos h4] at h; exact absurd h (by decide)
  · rw [if_pos h1] at h; exact absurd h (by decide)
set_option maxRecDepth 100000 in
set_option maxHeartbeats 3200000 in
theorem mShift_ok (b : Nat) (p : Pl) (h : p.Ok) (hK : p.T + p.L < 255) (v u : Value) (d : List F) (zs : List Int) (w : World) (hF : IsField w b) (hv : Rb w v d) (hu : Ri w u zs) (ha : maE p d.length zs = 0) :
   Calls Try.prog 137 #[fp b, planV p, v, u] w fun e w' => ∃ z, e = .returned (.tuple #[z, .int .i64 0]) ∧ Ob w w' z (shOf p d zs) ∧ Below w.heap.size w w' := by
  have hz := Lib.hid (ma_zero ha)
  have hl1 : zs.length ≤ 1000 := by have := hz.out.2.1; have := h.l; omega
  have hxl := Lib.hid (shXs_len p h zs hz.out.2.1)
  have hnd := Lib.hid (shXs_nodup p h zs hz.out.2.2.1 hz.out.2.2.2)
  have hfl := Lib.hid (fil_full p h zs hz.out.2.1)
  have hsl := Lib.hid (secrets_len p)
  have hx : Hid (secretsAt p ++ (fil p.T zs (allOf p)).map point = shXs p zs) := Lib.hid rfl
  have hx2 : (shXs p zs).length ≤ 1000 := by have := hxl.out; omega
  have hfl2 : Hid ((fil p.T zs (allOf p)).length < 1000000) := Lib.hid (by have := hfl.out; have := h.l; omega)
  have hl8 : Hid ((secretsAt p).length + ((fil p.T zs (allOf p)).map point).length ≤ 1000000000) := Lib.hid (by rw [← List.length_append, hx.out]; omega)
  have hL1 : Hid ((shXs p zs).length = (szd d (shXs p zs).length).length) := Lib.hid (szd_len _ _).symm
  have hL2 : Hid (d.length ≤ (shXs p zs).length) := Lib.hid (by have := hxl.out; have := h.t; have := hz.out.1; omega)
  replace ha := Lib.hid ha
  clear hxl hsl hfl
  have HP := Blk.new w (planC p) 33
  have hB := below_alloc (Below.refl w.heap.size w) (.cells (planC p) 33)
  have hv := hv.below hB
  obtain ⟨Ad, cd, rfl, hcd, hrd⟩ := hv
  have hv : Rb _ (.slice Ad d.length cd) d := ⟨Ad, cd, rfl, hcd, hrd⟩
  have hu := hu.below hB
  have hF := hF.below hB
  go_enter Try.func137, Try.ntmps137
  go_wp2_with fail
  generalize w.alloc (.cells (planC p) 33) = wB at *
  have hPx := Lib.hid HP
  have hBx := Lib.hid hB
  have hFx := Lib.hid hF
  have hvx := Lib.hid hv
  have hB := Below.refl wB.heap.size wB
  obtain ⟨c0, c1, c2, c3, c4, c5⟩ := cells6 HP
  refine (mCheck_c p h _ _ d zs _ hv hu).mono ?_
  rintro e w1 ⟨rfl, h1⟩
  rw [ha.out]
  have HP := HP.below h1
  have hB := bt_ hB h1
  obtain ⟨c0, c1, c2, c3, c4, c5⟩ := cells6 HP
  have hu := hu.below h1
  clear h1 hv hF
  go_wp2_with fail
  go_region_held3 (fun w' => w'.cell? ⟨w.heap.size, 0, none⟩ = some (.int .i64 p.N) ∧ w'.cell? ⟨w.heap.size, 1, none⟩ = some (.int .i64 p.T) ∧ w'.cell? ⟨w.heap.size, 2, none⟩ = some (.int .i64 p.L) ∧ w'.cell? ⟨w.heap.size, 3, none⟩ = some (.int .i64 p.W) ∧ w'.cell? ⟨w.heap.size, 4, none⟩ = some (.int .i64 p.S) ∧ w'.cell? ⟨w.heap.size, 5, none⟩ = some (.int .i64 p.R))
    (go_keep)
    (first
    | (go_at_call 55; refine (secrets_yes p h _).mono ?_; rintro e w6 ⟨vS, rfl, sS, h6⟩; replace sS := sS.lower (by first | exact hB | exact below_drew hB); (try replace h6 := bu h6); have hu := hu.below h6; (try replace h6 := bu h6); have HP := HP.below h6; obtain ⟨c0, c1, c2, c3, c4, c5⟩ := cells6 HP; have hB := bt_ hB h6)
    | (go_at_call 192; refine (filled_c p h _ zs _ hu hl1).mono ?_; rintro e w6 ⟨vZ, rfl, sZ, h6⟩; have sS := sS.below h6; replace sZ := sZ.rk; (try replace h6 := bu h6); have HP := HP.below h6; obtain ⟨c0, c1, c2, c3, c4, c5⟩ := cells6 HP; have hB := bt_ hB h6)
    | (go_at_call 54; refine (points_c _ _ _ sZ hfl2.out).mono ?_; rintro e w6 ⟨vP, rfl, sP, h6⟩; have sS := sS.below h6; replace sP := sP.rk; (try replace h6 := bu h6); have HP := HP.below h6; obtain ⟨c0, c1, c2, c3, c4, c5⟩ := cells6 HP; have hB := bt_ hB h6)
    | (refine step_app_yy (w0 := wB) (by rfl) (.tmp 23) (.tmp 27) (by rfl) _ _ _ _ (by rfl) (by rfl) sS sP hB hl8.out ?_; intro v8 w8 hO8 hB8 hg8; obtain ⟨c0, c1, c2, c3, c4, c5⟩ := cells6 (hPx.out.below hB8))
    | fail)
  rw [hx.out] at hO8
  have hfy := hFx.out.below hB8
  have hrd := Kd.C_below hrd hB8
  obtain ⟨A8, c8, rfl⟩ := rk_form hO8.rk
  clear sS sP sZ hB hu hPx hg8
  have hB := Below.refl w8.heap.size w8
  go_wp2_with (first | ((with_reducible refine gate_dst (N := 31) rfl ?_); refine mk_len kb rfl (N := 31) rfl 40 5 _ _ rfl _ rfl rfl Try.underlying40 (.int .u8 0) 1 infoB rfl Nat.one_pos (by decide) (0 : F) rfl ?h0 ?hl hB ?_; (case h0 => omega); (case hl => omega); intro v1 w1 ho hb hg) | ((with_reducible refine gate_dst (N := 34) rfl ?_); refine halt ?_) | fail)
  refine ⟨?_⟩
  have hO := ho
  have hB := hb
  clear ho hb hg
  rw [Int.toNat_natCast] at hO
  refine Kd.R_copy (0 : F) (enc := bV) (h1 := fun _ => rfl) (w0 := w8) (w8).heap.size rfl (.tmp 32) (.tmp 33) 40 40 5 rfl Try.underlying40 infoC _ _ _ _ _ _ T_ rfl rfl hO (Kd.C_below hrd hB) hB (hB).size ?_
  intro w1 ho hb hg
  replace ho : Ob w8 w1 v1 _ := ho
  rw [List.length_replicate, szd_copy] at ho
  have sX := hO8.rk.below hb
  go_wp2_with fail
  refine (through_yes b _ _ (shXs p zs) (szd d (shXs p zs).length) _ (hfy.below hb) sX ho.rk hL1.out hnd.out hx2).mono ?_
  rintro e w9 ⟨z, rfl, oz, h9⟩
  go_wp2
  go_ret2
  exact ⟨_, rfl, (oz.lower hb).lower hB8 |>.lower hBx.out, bt_ hBx.out (bt_ hB8 (bt_ hb h9))⟩
end Go.Proofs.Ytijeabhfddaoaaa

/- The walks of package mask: over, Deal, Zero, Blind, Apply. -/
namespace Go.Proofs.Ytijeabhfddaoaaa
set_option linter.unusedVariables false
open Go.RowKit Go.Proofs.YtijeabhfddaoaaaW.PrintWords Go.Proofs.Sh

set_option maxRecDepth 100000 in
set_option maxHeartbeats 1600000 in
theorem oClos (b bf bp : Nat) (v : Value) (l : List F) (c : F) (w : World) (hF : IsField w b) (hf : Blk w bf #[fp b] 22) (hp : Blk w bp #[v] 40) (hv : Rb w v l) (b1 : l.length ≤ 1000000) :
   Calls Try.prog 216 #[.int .u8 (c.n : Int), .pointer (some ⟨bf, 0, none⟩), .pointer (some ⟨bp, 0, none⟩)] w fun e w' => e = .returned (.tuple #[]) ∧ ∃ z w1, w' = w1.setCell ⟨bp, 0, none⟩ z ∧ Ob w w1 z (F.qt c l) ∧ Below w.heap.size w w1 := by
  have c1 := hf.one
  have c2 := hp.one
  obtain ⟨A, n, rfl⟩ := rk_form hv
  go_enter Try.func216, Try.ntmps216
  go_wp2_with fail
  refine (pOver_c b _ l c _ hF hv b1).mono ?_
  rintro e w1 ⟨z, rfl, oz, h1⟩
  obtain ⟨A1, n1, rfl⟩ := rk_form oz.rk
  have c3 := (hp.below h1).one
  have c4 := blk_frozen (hp.below h1) 0
  go_wp2
  go_end0
  exact ⟨rfl, _, w1, rfl, oz, h1⟩
set_option maxRecDepth 100000 in
set_option maxHeartbeats 1600000 in
theorem over_c (b : Nat) (v u : Value) (l xs : List F) (w : World) (hF : IsField w b) (hv : Rb w v l) (hu : Rb w u xs) (b1 : l.length ≤ 1000000) :
   Calls Try.prog 195 #[fp b, v, u] w fun e w' => ∃ z, e = .returned z ∧ Rb w' z (qts xs l) ∧ Below w.heap.size w w' := by
  obtain ⟨A0, n0, rfl⟩ := rk_form hv
  have hf := (Blk.new w #[fp b] 22).alloc (.cells #[.slice A0 l.length n0] 40)
  have hp := Blk.new' (w.alloc (.cells #[fp b] 22)) #[.slice A0 l.length n0] 40 (World.size_alloc _ _)
  have hB := below_alloc (below_alloc (Below.refl w.heap.size w) (.cells #[fp b] 22)) (.cells #[.slice A0 l.length n0] 40)
  have hv := hv.below hB
  have hux := hu.below hB
  obtain ⟨A, n, rfl, hn, hr⟩ := hu
  have hlx := kb_len hr
  go_enter Try.func195, Try.ntmps195
  go_wp2_with fail
  generalize (w.alloc (.cells #[fp b] 22)).alloc (.cells #[.slice A0 l.length n0] 40) = wB at *
  have hk0 : Hid (qts (xs.take 0) l = l) := Lib.hid rfl
  go_loopw [9, 13] (fun _ i wr => ∃ k : Nat, k ≤ xs.length ∧ i = .int .i64 k ∧ (∃ z, Blk wr w.heap.size #[fp b] 22 ∧ Blk wr (w.heap.size + 1) #[z] 40 ∧ Rb wr z (qts (xs.take k) l)) ∧ Below w.heap.size w wr) (fun _ i _ => xs.length - (intOf i).toNat)
  case atStart => exact ⟨0, by omega, rfl, ⟨_, hf, hp, by rw [hk0.out]; exact hv⟩, hB⟩
  case round =>
    clear hf hp hv hB
    obtain ⟨k, hk, rfl, ⟨z, hf, hp, hz⟩, hB⟩ := hrel
    by_cases hlt : k < xs.length
    · obtain ⟨ad, rfl, d0⟩ := kb_at hr k hlt
      have d0 := pw_cell_below hB d0
      have HS : Hid (qts (xs.take (k + 1)) l = F.qt (xs.getD k 0) (qts (xs.take k) l)) := Lib.hid (by rw [take_snoc' xs k 0 hlt, qts_snoc])
      have hq : (qts (xs.take k) l).length ≤ 1000000 := by rw [qts_len]; omega
      have hF := hF.below hB
      generalize xs.getD k 0 = c at *
      generalize qts (xs.take k) l = q at *
      go_wp2_with fail
      refine (oClos b _ _ z q c wr hF hf hp hz hq).mono ?_
      rintro e w5 ⟨rfl, z1, w1, rfl, oz, h1⟩
      go_wp2
      have hlt2 := hp.lt
      exact ⟨⟨k + 1, by omega, by go_num, ⟨z1, (hf.below h1).far (by omega) 0 z1, (hp.below h1).put z1, by rw [HS.out]; exact (Rk.far oz (fun e => by have := own_base (own_b oz) _ e.symm; omega) 0 z1).rk⟩, below_set (bt_ hB h1) (by omega)⟩, by simp [intOf]; try omega⟩
    · obtain rfl : k = xs.length := by omega
      rw [List.take_length] at hz
      have c1 := hp.one
      go_wp2
      go_ret
      exact ⟨_, rfl, hz, hB⟩
theorem sized_i (v : Value) (l : List F) (n : Int) (w : World) (hv : Rb w v l) (h0 : 0 ≤ n) (hn : n ≤ 1000000) :
   Calls Try.prog 194 #[v, .int .i64 n] w fun e w' => ∃ z, e = .returned z ∧ Ob w w' z (szd l n.toNat) ∧ Below w.heap.size w w' := by
  have := sized_c v l n.toNat w hv (by omega)
  rwa [Int.toNat_of_nonneg h0] at this
/-- The masks. -/
def dealM (p : Pl) (d s : List F) : List F := szd (qts (secretsAt p) (F.padd s (F.thr (secretsAt p) (szd d (secretsAt p).length) (secretsAt p).length))) p.T.toNat
def zeroM (p : Pl) (s : List F) : List F := szd (qts (secretsAt p) s) p.T.toNat
def blindM (p : Pl) (s : List F) (t : Int) : List F := szd (qts [point t] s) (p.T + p.L - 1).toNat
theorem secrets_nodup (p : Pl) (h : p.Ok) : (secretsAt p).Nodup := (List.nodup_append.1 (points_unlike p h)).2.1
set_option maxRecDepth 100000 in
set_option maxHeartbeats 3200000 in
theorem mZero_c (b : Nat) (p : Pl) (h : p.Ok) (v : Value) (s : List F) (w : World) (hF : IsField w b) (hs : Rb w v s) (b1 : s.length ≤ 1000000) :
   Calls Try.prog 141 #[fp b, planV p, v] w fun e w' => ∃ z, e = .returned z ∧ Ob w w' z (zeroM p s) ∧ Below w.heap.size w w' := by
  have hT : Hid (0 ≤ p.T ∧ p.T ≤ 1000000) := Lib.hid (by have := h.t; have := h.l; have := h.tl; have := h.wn; have := h.nl; omega)
  have hR : Hid (szd (qts (secretsAt p) s) p.T.toNat = zeroM p s) := Lib.hid rfl
  have HP := Blk.new w (planC p) 33
  have hB := below_alloc (Below.refl w.heap.size w) (.cells (planC p) 33)
  have hF := hF.below hB
  have hs := hs.below hB
  go_enter Try.func141, Try.ntmps141
  go_wp2_with fail
  refine (right_yes p h _).mono ?_
  rintro e w1 ⟨rfl, h1⟩
  have HP := HP.below h1
  have hB := bt_ hB h1
  obtain ⟨c0, c1, c2, c3, c4, c5⟩ := cells6 HP
  have hF := hF.below h1
  have hs := hs.below h1
  clear h1
  go_wp2_with fail
  go_region_held3 (fun w' => w'.cell? ⟨w.heap.size, 0, none⟩ = some (.int .i64 p.N) ∧ w'.cell? ⟨w.heap.size, 1, none⟩ = some (.int .i64 p.T) ∧ w'.cell? ⟨w.heap.size, 2, none⟩ = some (.int .i64 p.L) ∧ w'.cell? ⟨w.heap.size, 3, none⟩ = some (.int .i64 p.W) ∧ w'.cell? ⟨w.heap.size, 4, none⟩ = some (.int .i64 p.S) ∧ w'.cell? ⟨w.heap.size, 5, none⟩ = some (.int .i64 p.R))
    (go_keep)
    (first
    | (go_at_call 55; refine (secrets_yes p h _).mono ?_; rintro e w6 ⟨vS, rfl, sS, h6⟩; (repeat (first | replace h6 := buN h6 | replace h6 := bu h6)); have hF := hF.below h6; have hs := hs.below h6; replace sS := sS.rk; (try replace h6 := bu h6); have HP := HP.below h6; obtain ⟨c0, c1, c2, c3, c4, c5⟩ := cells6 HP; have hB := bt_ hB h6)
    | (go_at_call 195; refine (over_c b _ _ s (secretsAt p) _ hF hs sS b1).mono ?_; rintro e w6 ⟨vQ, rfl, sQ, h6⟩; (repeat (first | replace h6 := buN h6 | replace h6 := bu h6)); have hF := hF.below h6; have hs := hs.below h6; (try replace h6 := bu h6); have HP := HP.below h6; obtain ⟨c0, c1, c2, c3, c4, c5⟩ := cells6 HP; have hB := bt_ hB h6)
    | (go_at_call 194; refine (sized_i _ _ p.T _ sQ hT.out.1 hT.out.2).mono ?_; rintro e w6 ⟨vZ, rfl, sZ, h6⟩; (have hB9 := hB); (repeat (first | replace h6 := buN h6 | replace h6 := bu h6)); have hF := hF.below h6; have hs := hs.below h6; (try replace h6 := bu h6); have HP := HP.below h6; obtain ⟨c0, c1, c2, c3, c4, c5⟩ := cells6 HP; have hB := bt_ hB h6)
    | fail)
  go_wp2
  go_ret
  exact ⟨_, rfl, by rw [← hR.out]; exact sZ.lower hB9, hB⟩
set_option maxRecDepth 100000 in
set_option maxHeartbeats 1600000 in
theorem mZero_no (b : Nat) (p : Pl) (h : ¬ p.Ok) (v : Value) (w : World) :
   Calls Try.prog 141 #[fp b, planV p, v] w fun e w' => e = .returned (.slice none 0 0) ∧ Below w.heap.size w w' := by
  have HP := Blk.new w (planC p) 33
  have hB := below_alloc (Below.refl w.heap.size w) (.cells (planC p) 33)
  go_enter Try.func141, Try.ntmps141
  go_wp2_with fail
  refine (right_no p h _).mono ?_
  rintro e w1 ⟨rfl, h1⟩
  go_wp2
  go_ret
  exact ⟨rfl, bt_ hB h1⟩
set_option maxRecDepth 100000 in
set_option maxHeartbeats 3200000 in
theorem mDeal_c (b : Nat) (p : Pl) (h : p.Ok) (v u : Value) (d s : List F) (w : World) (hF : IsField w b) (hd : Rb w v d) (hs : Rb w u s) (b1 : s.length ≤ 1000000) :
   Calls Try.prog 140 #[fp b, planV p, v, u] w fun e w' => ∃ z, e = .returned z ∧ Ob w w' z (dealM p d s) ∧ Below w.heap.size w w' := by
  have hT : Hid (0 ≤ p.T ∧ p.T ≤ 1000000) := Lib.hid (by have := h.t; have := h.l; have := h.tl; have := h.wn; have := h.nl; omega)
  have hL : Hid ((secretsAt p).length ≤ 1000) := Lib.hid (by rw [secrets_len]; have := h.t; have := h.tl; have := h.wn; have := h.nl; omega)
  have hR : Hid (szd (qts (secretsAt p) (F.padd s (F.thr (secretsAt p) (szd d (secretsAt p).length) (secretsAt p).length))) p.T.toNat = dealM p d s) := Lib.hid rfl
  have hnd := Lib.hid (secrets_nodup p h)
  have hsz : Hid ((secretsAt p).length = (szd d (secretsAt p).length).length) := Lib.hid (szd_len _ _).symm
  have htl : Hid ((F.thr (secretsAt p) (szd d (secretsAt p).length) (secretsAt p).length).length ≤ 1000000) := Lib.hid (by rw [F.thr_len]; have := hL.out; omega)
  have hpl : Hid ((F.padd s (F.thr (secretsAt p) (szd d (secretsAt p).length) (secretsAt p).length)).length ≤ 1000000) := Lib.hid (by rw [F.padd_len, F.thr_len]; have := hL.out; omega)
  have HP := Blk.new w (planC p) 33
  have hB := below_alloc (Below.refl w.heap.size w) (.cells (planC p) 33)
  have hF := hF.below hB
  have hd := hd.below hB
  have hs := hs.below hB
  go_enter Try.func140, Try.ntmps140
  go_wp2_with fail
  refine (secrets_yes p h _).mono ?_
  rintro e w1 ⟨vS, rfl, sS, h1⟩
  have HP := HP.below h1
  have hB := bt_ hB h1
  obtain ⟨c0, c1, c2, c3, c4, c5⟩ := cells6 HP
  have hF := hF.below h1
  have hd := hd.below h1
  have hs := hs.below h1
  clear h1
  replace sS := sS.rk
  obtain ⟨AS, nS, rfl⟩ := rk_form sS
  go_wp2_with fail
  refine (sized_c _ d (secretsAt p).length _ hd (Nat.le_trans hL.out (by decide))).mono ?_
  rintro e w2 ⟨v2, rfl, sD, h2⟩
  have HP := HP.below h2
  have hB := bt_ hB h2
  obtain ⟨c0, c1, c2, c3, c4, c5⟩ := cells6 HP
  have hF := hF.below h2
  have hs := hs.below h2
  have sS := sS.below h2
  clear h2
  go_wp2_with fail
  refine (through_yes b _ _ (secretsAt p) (szd d (secretsAt p).length) _ hF sS sD.rk hsz.out hnd.out hL.out).mono ?_
  rintro e w3 ⟨v3, rfl, sT, h3⟩
  have HP := HP.below h3
  have hB := bt_ hB h3
  obtain ⟨c0, c1, c2, c3, c4, c5⟩ := cells6 HP
  have hF := hF.below h3
  have hs := hs.below h3
  have sS := sS.below h3
  replace sT := sT.rk
  clear h3 sD hd
  go_wp2_with fail
  refine (right_yes p h _).mono ?_
  rintro e w4 ⟨rfl, h4⟩
  have HP := HP.below h4
  have hB := bt_ hB h4
  obtain ⟨c0, c1, c2, c3, c4, c5⟩ := cells6 HP
  have hF := hF.below h4
  have hs := hs.below h4
  have sS := sS.below h4
  have sT := sT.below h4
  clear h4
  go_wp2_with fail
  go_region_held3 (fun w' => w'.cell? ⟨w.heap.size, 0, none⟩ = some (.int .i64 p.N) ∧ w'.cell? ⟨w.heap.size, 1, none⟩ = some (.int .i64 p.T) ∧ w'.cell? ⟨w.heap.size, 2, none⟩ = some (.int .i64 p.L) ∧ w'.cell? ⟨w.heap.size, 3, none⟩ = some (.int .i64 p.W) ∧ w'.cell? ⟨w.heap.size, 4, none⟩ = some (.int .i64 p.S) ∧ w'.cell? ⟨w.heap.size, 5, none⟩ = some (.int .i64 p.R))
    (go_keep)
    (first
    | (go_at_call 75; refine (pSum_c _ _ s _ _ (by first | exact hs | exact hs.drew | exact hs.drewN _) (by first | exact sT | exact sT.drew | exact sT.drewN _) b1 htl.out).mono ?_; rintro e w6 ⟨vQ, rfl, sP, h6⟩; (repeat (first | replace h6 := buN h6 | replace h6 := bu h6)); have hF := hF.below h6; have sS := sS.below h6; replace sP := sP.rk; (try replace h6 := bu h6); have HP := HP.below h6; obtain ⟨c0, c1, c2, c3, c4, c5⟩ := cells6 HP; have hB := bt_ hB h6)
    | (go_at_call 195; refine (over_c b _ _ _ (secretsAt p) _ hF sP sS hpl.out).mono ?_; rintro e w6 ⟨vQ, rfl, sQ, h6⟩; (repeat (first | replace h6 := buN h6 | replace h6 := bu h6)); (try replace h6 := bu h6); have HP := HP.below h6; obtain ⟨c0, c1, c2, c3, c4, c5⟩ := cells6 HP; have hB := bt_ hB h6)
    | (go_at_call 194; refine (sized_i _ _ p.T _ sQ hT.out.1 hT.out.2).mono ?_; rintro e w6 ⟨vZ, rfl, sZ, h6⟩; (have hB9 := hB); (repeat (first | replace h6 := buN h6 | replace h6 := bu h6)); (try replace h6 := bu h6); have HP := HP.below h6; obtain ⟨c0, c1, c2, c3, c4, c5⟩ := cells6 HP; have hB := bt_ hB h6)
    | fail)
  go_wp2
  go_ret
  exact ⟨_, rfl, by rw [← hR.out]; exact sZ.lower hB9, hB⟩
set_option maxRecDepth 100000 in
set_option maxHeartbeats 3200000 in
theorem mDeal_no (b : Nat) (p : Pl) (h : ¬ p.Ok) (v u : Value) (d : List F) (w : World) (hF : IsField w b) (hd : Rb w v d) :
   Calls Try.prog 140 #[fp b, planV p, v, u] w fun e w' => e = .returned (.slice none 0 0) ∧ Below w.heap.size w w' := by
  have HP := Blk.new w (planC p) 33
  have hB := below_alloc (Below.refl w.heap.size w) (.cells (planC p) 33)
  have hF := hF.below hB
  have hd := hd.below hB
  go_enter Try.func140, Try.ntmps140
  go_wp2_with fail
  refine (secrets_no p h _).mono ?_
  rintro e w1 ⟨rfl, h1⟩
  have HP := HP.below h1
  have hB := bt_ hB h1
  obtain ⟨c0, c1, c2, c3, c4, c5⟩ := cells6 HP
  have hF := hF.below h1
  have hd := hd.below h1
  clear h1
  go_wp2_with fail
  refine (sized_c _ d 0 _ hd (by decide)).mono ?_
  rintro e w2 ⟨v2, rfl, sD, h2⟩
  have HP := HP.below h2
  have hB := bt_ hB h2
  obtain ⟨c0, c1, c2, c3, c4, c5⟩ := cells6 HP
  have hF := hF.below h2
  have hnil : Rb w2 (.slice none 0 0) ([] : List F) := (Own.nil _ _ w2 w2 : Ob w2 w2 (.slice none 0 0) []).rk
  clear h2
  go_wp2_with fail
  refine (through_yes b _ _ ([] : List F) (szd d 0) _ hF hnil sD.rk rfl List.nodup_nil (by decide)).mono ?_
  rintro e w3 ⟨v3, rfl, sT, h3⟩
  have HP := HP.below h3
  have hB := bt_ hB h3
  obtain ⟨c0, c1, c2, c3, c4, c5⟩ := cells6 HP
  clear h3
  go_wp2_with fail
  refine (right_no p h _).mono ?_
  rintro e w4 ⟨rfl, h4⟩
  go_wp2
  go_ret
  exact ⟨rfl, bt_ hB h4⟩
end Go.Proofs.Ytijeabhfddaoaaa

/- The walks of package mask: Blind, Apply. -/
namespace Go.Proofs.Ytijeabhfddaoaaa
set_option linter.unusedVariables false
open Go.RowKit Go.Proofs.YtijeabhfddaoaaaW.PrintWords Go.Proofs.Sh

set_option maxRecDepth 100000 in
set_option maxHeartbeats 1600000 in
theorem mBlind_no (b : Nat) (p : Pl) (h : ¬ p.Ok) (v : Value) (t : Int) (w : World) :
   Calls Try.prog 142 #[fp b, planV p, v, .int .i64 t] w fun e w' => e = .returned (.slice none 0 0) ∧ Below w.heap.size w w' := by
  have HP := Blk.new w (planC p) 33
  have hB := below_alloc (Below.refl w.heap.size w) (.cells (planC p) 33)
  go_enter Try.func142, Try.ntmps142
  go_wp2_with fail
  refine (is_no p h t _).mono ?_
  rintro e w1 ⟨rfl, h1⟩
  go_wp2
  go_ret
  exact ⟨rfl, bt_ hB h1⟩
set_option maxRecDepth 100000 in
set_option maxHeartbeats 1600000 in
theorem mBlind_out (b : Nat) (p : Pl) (h : p.Ok) (v : Value) (t : Int) (ht : ¬ (1 ≤ t ∧ t ≤ p.N)) (w : World) :
   Calls Try.prog 142 #[fp b, planV p, v, .int .i64 t] w fun e w' => e = .returned (.slice none 0 0) ∧ Below w.heap.size w w' := by
  have hd := Lib.hid (decide_eq_false ht)
  clear ht
  have HP := Blk.new w (planC p) 33
  have hB := below_alloc (Below.refl w.heap.size w) (.cells (planC p) 33)
  go_enter Try.func142, Try.ntmps142
  go_wp2_with fail
  refine (is_yes p h t _).mono ?_
  rintro e w1 ⟨rfl, h1⟩
  rw [hd.out]
  go_wp2
  go_ret
  exact ⟨rfl, bt_ hB h1⟩
set_option maxRecDepth 100000 in
set_option maxHeartbeats 3200000 in
theorem mBlind_c (b : Nat) (p : Pl) (h : p.Ok) (v : Value) (s : List F) (t : Int) (ht : 1 ≤ t ∧ t ≤ p.N) (w : World) (hF : IsField w b) (hs : Rb w v s) (b1 : s.length ≤ 1000000) :
   Calls Try.prog 142 #[fp b, planV p, v, .int .i64 t] w fun e w' => ∃ z, e = .returned z ∧ Ob w w' z (blindM p s t) ∧ Below w.heap.size w w' := by
  have hT : Hid (0 ≤ p.T + p.L - 1 ∧ p.T + p.L - 1 ≤ 1000000) := Lib.hid (by have := h.t; have := h.l; have := h.tl; have := h.wn; have := h.nl; omega)
  have hR : Hid (szd (qts [point t] s) (p.T + p.L - 1).toNat = blindM p s t) := Lib.hid rfl
  have u1 : IntKind.i64.wrap (p.T + p.L - 1) = p.T + p.L - 1 := wrapI _ (by have := hT.out; omega) (by have := hT.out; omega)
  have hd := Lib.hid (decide_eq_true ht)
  have hpt := fun w => point_c t w
  generalize point t = x at *
  replace hpt := Lib.hid hpt
  clear ht
  have HP := Blk.new w (planC p) 33
  have hB := below_alloc (Below.refl w.heap.size w) (.cells (planC p) 33)
  have hF := hF.below hB
  have hs := hs.below hB
  go_enter Try.func142, Try.ntmps142
  go_wp2_with fail
  refine (is_yes p h t _).mono ?_
  rintro e w1 ⟨rfl, h1⟩
  rw [hd.out]
  have HP := HP.below h1
  have hB := bt_ hB h1
  obtain ⟨c0, c1, c2, c3, c4, c5⟩ := cells6 HP
  have hF := hF.below h1
  have hs := hs.below h1
  clear h1
  go_wp2_with fail
  go_region_held3 (fun w' => w'.cell? ⟨w.heap.size, 0, none⟩ = some (.int .i64 p.N) ∧ w'.cell? ⟨w.heap.size, 1, none⟩ = some (.int .i64 p.T) ∧ w'.cell? ⟨w.heap.size, 2, none⟩ = some (.int .i64 p.L) ∧ w'.cell? ⟨w.heap.size, 3, none⟩ = some (.int .i64 p.W) ∧ w'.cell? ⟨w.heap.size, 4, none⟩ = some (.int .i64 p.S) ∧ w'.cell? ⟨w.heap.size, 5, none⟩ = some (.int .i64 p.R))
    (go_keep)
    (first
    | (go_at_call 58; refine (hpt.out _).mono ?_; rintro e w_ ⟨rfl, rfl⟩)
    | (go_at_call 195; refine (over_c b _ _ s [x] _ (by first | exact hF.below (below_alloc (Below.refl _ _) _) | exact (hF.below (below_alloc (Below.refl _ _) _)).drew | exact (hF.below (below_alloc (Below.refl _ _) _)).drewN _) (by first | exact hs.alloc _ | exact (hs.alloc _).drew | exact (hs.alloc _).drewN _) (by first | exact lit_b _ [x] _ _ _ _ rfl rfl (by decide) (by decide) | exact (lit_b _ [x] _ _ _ _ rfl rfl (by decide) (by decide)).drew | exact (lit_b _ [x] _ _ _ _ rfl rfl (by decide) (by decide)).drewN _) b1).mono ?_; rintro e w6 ⟨vQ, rfl, sQ, h6⟩; (repeat (first | replace h6 := ba h6 | replace h6 := buN h6 | replace h6 := bu h6)); (try replace h6 := bu h6); have HP := HP.below h6; obtain ⟨c0, c1, c2, c3, c4, c5⟩ := cells6 HP; have hB := bt_ hB h6)
    | (go_at_call 63; refine (need_yes p h _).mono ?_; rintro e w6 ⟨rfl, h6⟩; (repeat (first | replace h6 := ba h6 | replace h6 := buN h6 | replace h6 := bu h6)); have sQ := sQ.below h6; (try replace h6 := bu h6); have HP := HP.below h6; obtain ⟨c0, c1, c2, c3, c4, c5⟩ := cells6 HP; have hB := bt_ hB h6)
    | (go_at_call 194; refine (sized_i _ _ (p.T + p.L - 1) _ sQ hT.out.1 hT.out.2).mono ?_; rintro e w6 ⟨vZ, rfl, sZ, h6⟩; (have hB9 := hB); (repeat (first | replace h6 := ba h6 | replace h6 := buN h6 | replace h6 := bu h6)); (try replace h6 := bu h6); have HP := HP.below h6; obtain ⟨c0, c1, c2, c3, c4, c5⟩ := cells6 HP; have hB := bt_ hB h6)
    | fail)
  go_wp2
  go_ret
  exact ⟨_, rfl, by rw [← hR.out]; exact sZ.lower hB9, hB⟩
set_option maxRecDepth 100000 in
set_option maxHeartbeats 1600000 in
theorem bClone_c (v : Value) (l : List F) (w : World) (hv : Rb w v l) (hl : l.length ≤ 140737488351232) :
   Calls Try.prog 173 #[v] w fun e w' => ∃ z, e = .returned z ∧ Ob w w' z l ∧ Below w.heap.size w w' := by
  have hL := lit_own (w0 := w) (W := w) [] #[] rfl 0 rfl (by decide) (Nat.le_refl _)
  have hB := below_alloc (Below.refl w.heap.size w) (.cells #[] 5)
  have hv2 := hv.below hB
  obtain ⟨A, c, rfl, hc, hr⟩ := hv
  cases A with
  | none =>
    have h0 : l = [] := by
      rcases l with _ | ⟨x, l⟩
      · rfl
      · obtain ⟨ad, e, _⟩ := kb_at hr 0 (by simp)
        cases e
    subst h0
    have hnil : ∀ W, (binOp .eql 40 (.slice none 0 c) (.slice none 0 0)).run Try.prog W = .ok (.bool true) W := fun W => Lib.run_eql_slice_nil_nil W _ _ Try.underlying40
    go_enter Try.func173, Try.ntmps173
    go_wp2
    go_ret
    exact ⟨_, rfl, Own.nil _ _ _ _, Below.refl _ _⟩
  | some ad =>
    have hnil : ∀ W, (binOp .eql 40 (.slice (some ad) l.length c) (.slice none 0 0)).run Try.prog W = .ok (.bool false) W := fun W => Lib.run_eql_slice_some_nil W _ _ _ Try.underlying40
    go_enter Try.func173, Try.ntmps173
    go_wp2_with (at_builtin; refine app_many (enc := bV) rfl (.tmp 5) (.tmp 6) 40 5 (.int .u8 0) 1 rfl Try.underlying40 infoB rfl (by decide) _ [] l _ rfl rfl hL hv2 hB ?hl ?_; (case hl => (simp; omega)); intro v1 w1 ho hb hg)
    go_ret
    exact ⟨_, rfl, ho, hb⟩
set_option maxRecDepth 100000 in
set_option maxHeartbeats 1600000 in
theorem mApply_out (v u : Value) (t m : List F) (a : Int) (w : World) (hv : Rb w v t) (hl : t.length ≤ 140737488351232) (ha : a < 0 ∨ (t.length : Int) < a) :
   Calls Try.prog 143 #[v, .int .i64 a, u] w fun e w' => ∃ z, e = .returned z ∧ Ob w w' z (apM t a m) ∧ Below w.heap.size w w' := by
  have hR : Hid (apM t a m = t) := Lib.hid (apM_out t a m (by omega))
  by_cases h0 : a < 0
  · have t1 : decide (a < 0) = true := decide_eq_true h0
    clear ha
    go_enter Try.func143, Try.ntmps143
    go_wp2_with fail
    refine (bClone_c _ t _ hv hl).mono ?_
    rintro e w1 ⟨v1, rfl, hO, h1⟩
    go_wp2
    go_ret
    rw [hR.out]
    exact ⟨_, rfl, hO, h1⟩
  · have t1 : decide (a < 0) = false := decide_eq_false h0
    have t2 : decide ((t.length : Int) < a) = true := decide_eq_true (by omega)
    clear ha
    go_enter Try.func143, Try.ntmps143
    go_wp2_with fail
    refine (bClone_c _ t _ hv hl).mono ?_
    rintro e w1 ⟨v1, rfl, hO, h1⟩
    obtain ⟨A1, n1, rfl⟩ := rk_form hO.rk
    go_wp2
    go_ret
    rw [hR.out]
    exact ⟨_, rfl, hO, h1⟩
set_option maxRecDepth 100000 in
set_option maxHeartbeats 3200000 in
theorem mApply_in (v u : Value) (t m : List F) (a : Nat) (w : World) (hv : Rb w v t) (hu : Rb w u m) (hl : t.length ≤ 140737488351232) (ha : a < t.length) :
   Calls Try.prog 143 #[v, .int .i64 (a : Int), u] w fun e w' => ∃ z, e = .returned z ∧ Ob w w' z (apM t a m) ∧ Below w.heap.size w w' := by
  have hR : Hid (apTo t a m (min (t.length - a) m.length) = apM t a m) := Lib.hid (apTo_all t a m)
  have t1 : decide ((a : Int) < 0) = false := decide_eq_false (by omega)
  have t2 : decide ((t.length : Int) < a) = false := decide_eq_false (by omega)
  have t3 : decide (t.length < a) = false := decide_eq_false (by omega)
  obtain ⟨B, d, rfl, hd, hs⟩ := hu
  have hlm := kb_len hs
  go_enter Try.func143, Try.ntmps143
  go_wp2_with fail
  refine (bClone_c _ t _ hv hl).mono ?_
  rintro e w1 ⟨v1, rfl, hO, hB⟩
  obtain ⟨g, cap, rfl, hg0, hg1⟩ := hO.form (by omega)
  obtain ⟨_, hcap⟩ := ob_slice hO
  have hs0 := Kd.C_below hs hB
  have hs0 := Lib.hid hs0
  by_cases hmin : m.length < t.length - a
  · have hR : Hid (apTo t a m m.length = apM t a m) := Lib.hid (by have := hR.out; rwa [Nat.min_eq_right (by omega)] at this)
    go_wp2_with fail
    (try rw [t3])
    go_loopw [9, 29] (fun _ i wr => ∃ k : Nat, k ≤ m.length ∧ i = .int .i64 k ∧ Ob w wr (.slice (some ⟨g, 0, none⟩) t.length cap) (apTo t a m k) ∧ Below w.heap.size w wr) (fun _ i _ => m.length - (intOf i).toNat)
    case atStart => exact ⟨0, by omega, rfl, by rw [apTo_0]; exact hO, hB⟩
    case round =>
      clear hO hB
      obtain ⟨k, hk, rfl, hO, hB⟩ := hrel
      by_cases hlt : k < m.length
      · obtain ⟨ad, rfl, d0⟩ := kb_at hs k (by omega)
        have d0 := pw_cell_below hB d0
        obtain ⟨e1, e2⟩ := hO.at (a + k) (by rw [apTo_len]; omega)
        have hst := Lib.hid (apTo_set t a m k (by omega))
        have hset := fun x => Lib.hid (hO.set (a + k) x).1
        have q1 : k < m.length := by omega
        have q2 : k < t.length - a := by omega
        generalize (apTo t a m k).getD (a + k) 0 = x at *
        generalize m.getD k 0 = y at *
        go_wp2_with fail
        go_region_law (first
          | (go_simp; go_at_call 39; refine (add_c x y _ _ _ rfl rfl).mono ?_; rintro e w5 ⟨rfl, rfl⟩)
          | fail)
        all_goals
          go_wp2
          have hO2 := (hset (x + y)).out
          rw [hst.out] at hO2
          exact ⟨⟨k + 1, by omega, by go_num, hO2.below (below_drew (Below.refl _ _)), below_drew (below_set hB hg0)⟩, by simp [intOf]; try omega⟩
      · obtain rfl : k = m.length := by omega
        rw [hR.out] at hO
        go_wp2
        go_ret
        exact ⟨_, rfl, hO, hB⟩
  · have hR : Hid (apTo t a m (t.length - a) = apM t a m) := Lib.hid (by have := hR.out; rwa [Nat.min_eq_left (by omega)] at this)
    go_wp2_with fail
    (try rw [t3])
    go_loopw [9, 29] (fun _ i wr => ∃ k : Nat, k ≤ (t.length - a) ∧ i = .int .i64 k ∧ Ob w wr (.slice (some ⟨g, 0, none⟩) t.length cap) (apTo t a m k) ∧ Below w.heap.size w wr) (fun _ i _ => (t.length - a) - (intOf i).toNat)
    case atStart => exact ⟨0, by omega, rfl, by rw [apTo_0]; exact hO, hB⟩
    case round =>
      clear hO hB
      obtain ⟨k, hk, rfl, hO, hB⟩ := hrel
      by_cases hlt : k < (t.length - a)
      · obtain ⟨ad, rfl, d0⟩ := kb_at hs k (by omega)
        have d0 := pw_cell_below hB d0
        obtain ⟨e1, e2⟩ := hO.at (a + k) (by rw [apTo_len]; omega)
        have hst := Lib.hid (apTo_set t a m k (by omega))
        have hset := fun x => Lib.hid (hO.set (a + k) x).1
        have q1 : k < m.length := by omega
        have q2 : k < t.length - a := by omega
        generalize (apTo t a m k).getD (a + k) 0 = x at *
        generalize m.getD k 0 = y at *
        go_wp2_with fail
        go_region_law (first
          | (go_simp; go_at_call 39; refine (add_c x y _ _ _ rfl rfl).mono ?_; rintro e w5 ⟨rfl, rfl⟩)
          | fail)
        all_goals
          go_wp2
          have hO2 := (hset (x + y)).out
          rw [hst.out] at hO2
          exact ⟨⟨k + 1, by omega, by go_num, hO2.below (below_drew (Below.refl _ _)), below_drew (below_set hB hg0)⟩, by simp [intOf]; try omega⟩
      · obtain rfl : k = (t.length - a) := by omega
        rw [hR.out] at hO
        go_wp2
        go_ret
        exact ⟨_, rfl, hO, hB⟩
set_option maxRecDepth 100000 in
set_option maxHeartbeats 3200000 in
theorem mApply_end (v u : Value) (t m : List F) (w : World) (hv : Rb w v t) (hu : Rb w u m) (hl : t.length ≤ 140737488351232) :
   Calls Try.prog 143 #[v, .int .i64 (t.length : Int), u] w fun e w' => ∃ z, e = .returned z ∧ Ob w w' z (apM t t.length m) ∧ Below w.heap.size w w' := by
  have hR : Hid (apM t t.length m = t) := Lib.hid (apM_out t _ m (by omega))
  have t1 : decide ((t.length : Int) < 0) = false := decide_eq_false (by omega)
  have t2 : decide ((t.length : Int) < t.length) = false := decide_eq_false (by omega)
  have t3 : decide (t.length < t.length) = false := decide_eq_false (by omega)
  obtain ⟨B, d, rfl, hd, hs⟩ := hu
  have hlm := kb_len hs
  go_enter Try.func143, Try.ntmps143
  go_wp2_with fail
  refine (bClone_c _ t _ hv hl).mono ?_
  rintro e w1 ⟨v1, rfl, hO, hB⟩
  obtain ⟨A1, n1, rfl⟩ := rk_form hO.rk
  have hcap := rk_cap hO.rk
  cases A1 with
  | none =>
    go_wp2_with fail
    (try rw [t3])
    go_loop [29] (fun i => i = .int .i64 0) (fun _ => 0)
    case atStart => rfl
    case round =>
      obtain rfl := hrel
      go_wp2
      go_ret
      rw [hR.out]
      exact ⟨_, rfl, hO, hB⟩
  | some ad =>
    by_cases hc : n1 = t.length
    · subst hc
      go_wp2_with fail
      (try rw [t3])
      go_loop [29] (fun i => i = .int .i64 0) (fun _ => 0)
      case atStart => rfl
      case round =>
        obtain rfl := hrel
        go_wp2
        go_ret
        rw [hR.out]
        exact ⟨_, rfl, hO, hB⟩
    · have hc2 : t.length < n1 := by omega
      go_wp2_with fail
      (try rw [t3])
      go_loop [29] (fun i => i = .int .i64 0) (fun _ => 0)
      case atStart => rfl
      case round =>
        obtain rfl := hrel
        go_wp2
        go_ret
        rw [hR.out]
        exact ⟨_, rfl, hO, hB⟩
end Go.Proofs.Ytijeabhfddaoaaa
