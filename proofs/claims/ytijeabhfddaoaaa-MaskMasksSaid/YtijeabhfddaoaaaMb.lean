/- The walks of package mask: over, Deal, Zero, Blind, Apply. -/
import Derived.Test.YtijeabhfddaoaaaMa
namespace Go.Proofs.Ytijeabhfddaoaaa
set_option linter.unusedVariables false
open Go.RowKit Go.Proofs.YtijeabhfddaoaaaW.PrintWords Go.Proofs.Sh

set_option maxRecDepth 100000 in
set_option maxHeartbeats 1600000 in
theorem oClos (b bf bp : Nat) (v : Value) (l : List F) (c : F) (w : World) (hF : IsField w b) (hf : Blk w bf #[fp b] 22) (hp : Blk w bp #[v] 40) (hv : Rb w v l) (b1 : l.length ≤ 1000000) :
   Calls Try.prog 216 #[.int .u8 (c.n : Int), .pointer (some ⟨bf, 0, none⟩), .pointer (some ⟨bp, 0, none⟩)] w fun e w' => e = .returned (.tuple #[]) ∧ ∃ z w1, w' = w1.setCell ⟨bp, 0, none⟩ z ∧ Ob w w1 z (F.qt c l) ∧ Below w.heap.size w w1 := by
  have c1 := hf.one
  have c2 := hp.one
  obtain ⟨A, n, rfl⟩ := rk_form hv
  go_enter Try.func216, Try.ntmps216
  go_wp2_with fail
  refine (pOver_c b _ l c _ hF hv b1).mono ?_
  rintro e w1 ⟨z, rfl, oz, h1⟩
  obtain ⟨A1, n1, rfl⟩ := rk_form oz.rk
  have c3 := (hp.below h1).one
  have c4 := blk_frozen (hp.below h1) 0
  go_wp2
  go_end0
  exact ⟨rfl, _, w1, rfl, oz, h1⟩
set_option maxRecDepth 100000 in
set_option maxHeartbeats 1600000 in
theorem over_c (b : Nat) (v u : Value) (l xs : List F) (w : World) (hF : IsField w b) (hv : Rb w v l) (hu : Rb w u xs) (b1 : l.length ≤ 1000000) :
   Calls Try.prog 195 #[fp b, v, u] w fun e w' => ∃ z, e = .returned z ∧ Rb w' z (qts xs l) ∧ Below w.heap.size w w' := by
  obtain ⟨A0, n0, rfl⟩ := rk_form hv
  have hf := (Blk.new w #[fp b] 22).alloc (.cells #[.slice A0 l.length n0] 40)
  have hp := Blk.new' (w.alloc (.cells #[fp b] 22)) #[.slice A0 l.length n0] 40 (World.size_alloc _ _)
  have hB := below_alloc (below_alloc (Below.refl w.heap.size w) (.cells #[fp b] 22)) (.cells #[.slice A0 l.length n0] 40)
  have hv := hv.below hB
  have hux := hu.below hB
  obtain ⟨A, n, rfl, hn, hr⟩ := hu
  have hlx := kb_len hr
  go_enter Try.func195, Try.ntmps195
  go_wp2_with fail
  generalize (w.alloc (.cells #[fp b] 22)).alloc (.cells #[.slice A0 l.length n0] 40) = wB at *
  have hk0 : Hid (qts (xs.take 0) l = l) := Lib.hid rfl
  go_loopw [9, 13] (fun _ i wr => ∃ k : Nat, k ≤ xs.length ∧ i = .int .i64 k ∧ (∃ z, Blk wr w.heap.size #[fp b] 22 ∧ Blk wr (w.heap.size + 1) #[z] 40 ∧ Rb wr z (qts (xs.take k) l)) ∧ Below w.heap.size w wr) (fun _ i _ => xs.length - (intOf i).toNat)
  case atStart => exact ⟨0, by omega, rfl, ⟨_, hf, hp, by rw [hk0.out]; exact hv⟩, hB⟩
  case round =>
    clear hf hp hv hB
    obtain ⟨k, hk, rfl, ⟨z, hf, hp, hz⟩, hB⟩ := hrel
    by_cases hlt : k < xs.length
    · obtain ⟨ad, rfl, d0⟩ := kb_at hr k hlt
      have d0 := pw_cell_below hB d0
      have HS : Hid (qts (xs.take (k + 1)) l = F.qt (xs.getD k 0) (qts (xs.take k) l)) := Lib.hid (by rw [take_snoc' xs k 0 hlt, qts_snoc])
      have hq : (qts (xs.take k) l).length ≤ 1000000 := by rw [qts_len]; omega
      have hF := hF.below hB
      generalize xs.getD k 0 = c at *
      generalize qts (xs.take k) l = q at *
      go_wp2_with fail
      refine (oClos b _ _ z q c wr hF hf hp hz hq).mono ?_
      rintro e w5 ⟨rfl, z1, w1, rfl, oz, h1⟩
      go_wp2
      have hlt2 := hp.lt
      exact ⟨⟨k + 1, by omega, by go_num, ⟨z1, (hf.below h1).far (by omega) 0 z1, (hp.below h1).put z1, by rw [HS.out]; exact (Rk.far oz (fun e => by have := own_base (own_b oz) _ e.symm; omega) 0 z1).rk⟩, below_set (bt_ hB h1) (by omega)⟩, by simp [intOf]; try omega⟩
    · obtain rfl : k = xs.length := by omega
      rw [List.take_length] at hz
      have c1 := hp.one
      go_wp2
      go_ret
      exact ⟨_, rfl, hz, hB⟩
theorem sized_i (v : Value) (l : List F) (n : Int) (w : World) (hv : Rb w v l) (h0 : 0 ≤ n) (hn : n ≤ 1000000) :
   Calls Try.prog 194 #[v, .int .i64 n] w fun e w' => ∃ z, e = .returned z ∧ Ob w w' z (szd l n.toNat) ∧ Below w.heap.size w w' := by
  have := sized_c v l n.toNat w hv (by omega)
  rwa [Int.toNat_of_nonneg h0] at this
/-- The masks. -/
def dealM (p : Pl) (d s : List F) : List F := szd (qts (secretsAt p) (F.padd s (F.thr (secretsAt p) (szd d (secretsAt p).length) (secretsAt p).length))) p.T.toNat
def zeroM (p : Pl) (s : List F) : List F := szd (qts (secretsAt p) s) p.T.toNat
def blindM (p : Pl) (s : List F) (t : Int) : List F := szd (qts [point t] s) (p.T + p.L - 1).toNat
theorem secrets_nodup (p : Pl) (h : p.Ok) : (secretsAt p).Nodup := (List.nodup_append.1 (points_unlike p h)).2.1
set_option maxRecDepth 100000 in
set_option maxHeartbeats 3200000 in
theorem mZero_c (b : Nat) (p : Pl) (h : p.Ok) (v : Value) (s : List F) (w : World) (hF : IsField w b) (hs : Rb w v s) (b1 : s.length ≤ 1000000) :
   Calls Try.prog 141 #[fp b, planV p, v] w fun e w' => ∃ z, e = .returned z ∧ Ob w w' z (zeroM p s) ∧ Below w.heap.size w w' := by
  have hT : Hid (0 ≤ p.T ∧ p.T ≤ 1000000) := Lib.hid (by have := h.t; have := h.l; have := h.tl; have := h.wn; have := h.nl; omega)
  have hR : Hid (szd (qts (secretsAt p) s) p.T.toNat = zeroM p s) := Lib.hid rfl
  have HP := Blk.new w (planC p) 33
  have hB := below_alloc (Below.refl w.heap.size w) (.cells (planC p) 33)
  have hF := hF.below hB
  have hs := hs.below hB
  go_enter Try.func141, Try.ntmps141
  go_wp2_with fail
  refine (right_yes p h _).mono ?_
  rintro e w1 ⟨rfl, h1⟩
  have HP := HP.below h1
  have hB := bt_ hB h1
  obtain ⟨c0, c1, c2, c3, c4, c5⟩ := cells6 HP
  have hF := hF.below h1
  have hs := hs.below h1
  clear h1
  go_wp2_with fail
  go_region_held3 (fun w' => w'.cell? ⟨w.heap.size, 0, none⟩ = some (.int .i64 p.N) ∧ w'.cell? ⟨w.heap.size, 1, none⟩ = some (.int .i64 p.T) ∧ w'.cell? ⟨w.heap.size, 2, none⟩ = some (.int .i64 p.L) ∧ w'.cell? ⟨w.heap.size, 3, none⟩ = some (.int .i64 p.W) ∧ w'.cell? ⟨w.heap.size, 4, none⟩ = some (.int .i64 p.S) ∧ w'.cell? ⟨w.heap.size, 5, none⟩ = some (.int .i64 p.R))
    (go_keep)
    (first
    | (go_at_call 55; refine (secrets_yes p h _).mono ?_; rintro e w6 ⟨vS, rfl, sS, h6⟩; (repeat (first | replace h6 := buN h6 | replace h6 := bu h6)); have hF := hF.below h6; have hs := hs.below h6; replace sS := sS.rk; (try replace h6 := bu h6); have HP := HP.below h6; obtain ⟨c0, c1, c2, c3, c4, c5⟩ := cells6 HP; have hB := bt_ hB h6)
    | (go_at_call 195; refine (over_c b _ _ s (secretsAt p) _ hF hs sS b1).mono ?_; rintro e w6 ⟨vQ, rfl, sQ, h6⟩; (repeat (first | replace h6 := buN h6 | replace h6 := bu h6)); have hF := hF.below h6; have hs := hs.below h6; (try replace h6 := bu h6); have HP := HP.below h6; obtain ⟨c0, c1, c2, c3, c4, c5⟩ := cells6 HP; have hB := bt_ hB h6)
    | (go_at_call 194; refine (sized_i _ _ p.T _ sQ hT.out.1 hT.out.2).mono ?_; rintro e w6 ⟨vZ, rfl, sZ, h6⟩; (have hB9 := hB); (repeat (first | replace h6 := buN h6 | replace h6 := bu h6)); have hF := hF.below h6; have hs := hs.below h6; (try replace h6 := bu h6); have HP := HP.below h6; obtain ⟨c0, c1, c2, c3, c4, c5⟩ := cells6 HP; have hB := bt_ hB h6)
    | fail)
  go_wp2
  go_ret
  exact ⟨_, rfl, by rw [← hR.out]; exact sZ.lower hB9, hB⟩
set_option maxRecDepth 100000 in
set_option maxHeartbeats 1600000 in
theorem mZero_no (b : Nat) (p : Pl) (h : ¬ p.Ok) (v : Value) (w : World) :
   Calls Try.prog 141 #[fp b, planV p, v] w fun e w' => e = .returned (.slice none 0 0) ∧ Below w.heap.size w w' := by
  have HP := Blk.new w (planC p) 33
  have hB := below_alloc (Below.refl w.heap.size w) (.cells (planC p) 33)
  go_enter Try.func141, Try.ntmps141
  go_wp2_with fail
  refine (right_no p h _).mono ?_
  rintro e w1 ⟨rfl, h1⟩
  go_wp2
  go_ret
  exact ⟨rfl, bt_ hB h1⟩
set_option maxRecDepth 100000 in
set_option maxHeartbeats 3200000 in
theorem mDeal_c (b : Nat) (p : Pl) (h : p.Ok) (v u : Value) (d s : List F) (w : World) (hF : IsField w b) (hd : Rb w v d) (hs : Rb w u s) (b1 : s.length ≤ 1000000) :
   Calls Try.prog 140 #[fp b, planV p, v, u] w fun e w' => ∃ z, e = .returned z ∧ Ob w w' z (dealM p d s) ∧ Below w.heap.size w w' := by
  have hT : Hid (0 ≤ p.T ∧ p.T ≤ 1000000) := Lib.hid (by have := h.t; have := h.l; have := h.tl; have := h.wn; have := h.nl; omega)
  have hL : Hid ((secretsAt p).length ≤ 1000) := Lib.hid (by rw [secrets_len]; have := h.t; have := h.tl; have := h.wn; have := h.nl; omega)
  have hR : Hid (szd (qts (secretsAt p) (F.padd s (F.thr (secretsAt p) (szd d (secretsAt p).length) (secretsAt p).length))) p.T.toNat = dealM p d s) := Lib.hid rfl
  have hnd := Lib.hid (secrets_nodup p h)
  have hsz : Hid ((secretsAt p).length = (szd d (secretsAt p).length).length) := Lib.hid (szd_len _ _).symm
  have htl : Hid ((F.thr (secretsAt p) (szd d (secretsAt p).length) (secretsAt p).length).length ≤ 1000000) := Lib.hid (by rw [F.thr_len]; have := hL.out; omega)
  have hpl : Hid ((F.padd s (F.thr (secretsAt p) (szd d (secretsAt p).length) (secretsAt p).length)).length ≤ 1000000) := Lib.hid (by rw [F.padd_len, F.thr_len]; have := hL.out; omega)
  have HP := Blk.new w (planC p) 33
  have hB := below_alloc (Below.refl w.heap.size w) (.cells (planC p) 33)
  have hF := hF.below hB
  have hd := hd.below hB
  have hs := hs.below hB
  go_enter Try.func140, Try.ntmps140
  go_wp2_with fail
  refine (secrets_yes p h _).mono ?_
  rintro e w1 ⟨vS, rfl, sS, h1⟩
  have HP := HP.below h1
  have hB := bt_ hB h1
  obtain ⟨c0, c1, c2, c3, c4, c5⟩ := cells6 HP
  have hF := hF.below h1
  have hd := hd.below h1
  have hs := hs.below h1
  clear h1
  replace sS := sS.rk
  obtain ⟨AS, nS, rfl⟩ := rk_form sS
  go_wp2_with fail
  refine (sized_c _ d (secretsAt p).length _ hd (Nat.le_trans hL.out (by decide))).mono ?_
  rintro e w2 ⟨v2, rfl, sD, h2⟩
  have HP := HP.below h2
  have hB := bt_ hB h2
  obtain ⟨c0, c1, c2, c3, c4, c5⟩ := cells6 HP
  have hF := hF.below h2
  have hs := hs.below h2
  have sS := sS.below h2
  clear h2
  go_wp2_with fail
  refine (through_yes b _ _ (secretsAt p) (szd d (secretsAt p).length) _ hF sS sD.rk hsz.out hnd.out hL.out).mono ?_
  rintro e w3 ⟨v3, rfl, sT, h3⟩
  have HP := HP.below h3
  have hB := bt_ hB h3
  obtain ⟨c0, c1, c2, c3, c4, c5⟩ := cells6 HP
  have hF := hF.below h3
  have hs := hs.below h3
  have sS := sS.below h3
  replace sT := sT.rk
  clear h3 sD hd
  go_wp2_with fail
  refine (right_yes p h _).mono ?_
  rintro e w4 ⟨rfl, h4⟩
  have HP := HP.below h4
  have hB := bt_ hB h4
  obtain ⟨c0, c1, c2, c3, c4, c5⟩ := cells6 HP
  have hF := hF.below h4
  have hs := hs.below h4
  have sS := sS.below h4
  have sT := sT.below h4
  clear h4
  go_wp2_with fail
  go_region_held3 (fun w' => w'.cell? ⟨w.heap.size, 0, none⟩ = some (.int .i64 p.N) ∧ w'.cell? ⟨w.heap.size, 1, none⟩ = some (.int .i64 p.T) ∧ w'.cell? ⟨w.heap.size, 2, none⟩ = some (.int .i64 p.L) ∧ w'.cell? ⟨w.heap.size, 3, none⟩ = some (.int .i64 p.W) ∧ w'.cell? ⟨w.heap.size, 4, none⟩ = some (.int .i64 p.S) ∧ w'.cell? ⟨w.heap.size, 5, none⟩ = some (.int .i64 p.R))
    (go_keep)
    (first
    | (go_at_call 75; refine (pSum_c _ _ s _ _ (by first | exact hs | exact hs.drew | exact hs.drewN _) (by first | exact sT | exact sT.drew | exact sT.drewN _) b1 htl.out).mono ?_; rintro e w6 ⟨vQ, rfl, sP, h6⟩; (repeat (first | replace h6 := buN h6 | replace h6 := bu h6)); have hF := hF.below h6; have sS := sS.below h6; replace sP := sP.rk; (try replace h6 := bu h6); have HP := HP.below h6; obtain ⟨c0, c1, c2, c3, c4, c5⟩ := cells6 HP; have hB := bt_ hB h6)
    | (go_at_call 195; refine (over_c b _ _ _ (secretsAt p) _ hF sP sS hpl.out).mono ?_; rintro e w6 ⟨vQ, rfl, sQ, h6⟩; (repeat (first | replace h6 := buN h6 | replace h6 := bu h6)); (try replace h6 := bu h6); have HP := HP.below h6; obtain ⟨c0, c1, c2, c3, c4, c5⟩ := cells6 HP; have hB := bt_ hB h6)
    | (go_at_call 194; refine (sized_i _ _ p.T _ sQ hT.out.1 hT.out.2).mono ?_; rintro e w6 ⟨vZ, rfl, sZ, h6⟩; (have hB9 := hB); (repeat (first | replace h6 := buN h6 | replace h6 := bu h6)); (try replace h6 := bu h6); have HP := HP.below h6; obtain ⟨c0, c1, c2, c3, c4, c5⟩ := cells6 HP; have hB := bt_ hB h6)
    | fail)
  go_wp2
  go_ret
  exact ⟨_, rfl, by rw [← hR.out]; exact sZ.lower hB9, hB⟩
set_option maxRecDepth 100000 in
set_option maxHeartbeats 3200000 in
theorem mDeal_no (b : Nat) (p : Pl) (h : ¬ p.Ok) (v u : Value) (d : List F) (w : World) (hF : IsField w b) (hd : Rb w v d) :
   Calls Try.prog 140 #[fp b, planV p, v, u] w fun e w' => e = .returned (.slice none 0 0) ∧ Below w.heap.size w w' := by
  have HP := Blk.new w (planC p) 33
  have hB := below_alloc (Below.refl w.heap.size w) (.cells (planC p) 33)
  have hF := hF.below hB
  have hd := hd.below hB
  go_enter Try.func140, Try.ntmps140
  go_wp2_with fail
  refine (secrets_no p h _).mono ?_
  rintro e w1 ⟨rfl, h1⟩
  have HP := HP.below h1
  have hB := bt_ hB h1
  obtain ⟨c0, c1, c2, c3, c4, c5⟩ := cells6 HP
  have hF := hF.below h1
  have hd := hd.below h1
  clear h1
  go_wp2_with fail
  refine (sized_c _ d 0 _ hd (by decide)).mono ?_
  rintro e w2 ⟨v2, rfl, sD, h2⟩
  have HP := HP.below h2
  have hB := bt_ hB h2
  obtain ⟨c0, c1, c2, c3, c4, c5⟩ := cells6 HP
  have hF := hF.below h2
  have hnil : Rb w2 (.slice none 0 0) ([] : List F) := (Own.nil _ _ w2 w2 : Ob w2 w2 (.slice none 0 0) []).rk
  clear h2
  go_wp2_with fail
  refine (through_yes b _ _ ([] : List F) (szd d 0) _ hF hnil sD.rk rfl List.nodup_nil (by decide)).mono ?_
  rintro e w3 ⟨v3, rfl, sT, h3⟩
  have HP := HP.below h3
  have hB := bt_ hB h3
  obtain ⟨c0, c1, c2, c3, c4, c5⟩ := cells6 HP
  clear h3
  go_wp2_with fail
  refine (right_no p h _).mono ?_
  rintro e w4 ⟨rfl, h4⟩
  go_wp2
  go_ret
  exact ⟨rfl, bt_ hB h4⟩
end Go.Proofs.Ytijeabhfddaoaaa
