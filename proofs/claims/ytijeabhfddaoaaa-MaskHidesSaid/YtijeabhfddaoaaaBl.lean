/- The walks of package blind: making blindings. -/
import Derived.Test.YtijeabhfddaoaaaPo
import Derived.Test.YtijeabhfddaoaaaK6
import Derived.Test.YtijeabhfddaoaaaM11
namespace Go.Proofs.Ytijeabhfddaoaaa
set_option linter.unusedVariables false
open Go.RowKit Go.Proofs.YtijeabhfddaoaaaW.PrintWords Go.Proofs.Sh

set_option maxHeartbeats 400000 in
theorem bFew_c (n : Int) (w : World) :
   Calls Try.prog 171 #[.int .i64 n] w fun e w' => e = .returned (.bool (decide (0 ≤ n ∧ n ≤ 240))) ∧ w = w' := by
  by_cases h1 : 0 ≤ n
  · by_cases h2 : n ≤ 240
    · have hd := Lib.hid (decide_eq_true (And.intro h1 h2))
      go_enter Try.func171, Try.ntmps171
      go_wp2
      go_ret
      (try rw [hd.out])
      exact ⟨rfl, rfl⟩
    · have hd := Lib.hid (decide_eq_false (fun h : 0 ≤ n ∧ n ≤ 240 => h2 h.2))
      have t2 : decide (n ≤ 240) = false := decide_eq_false h2
      go_enter Try.func171, Try.ntmps171
      go_wp2
      go_ret
      (try rw [hd.out])
      exact ⟨rfl, rfl⟩
  · have hd := Lib.hid (decide_eq_false (fun h : 0 ≤ n ∧ n ≤ 240 => h1 h.1))
    have t2 : decide (0 ≤ n) = false := decide_eq_false h1
    go_enter Try.func171, Try.ntmps171
    go_wp2
    go_ret
    (try rw [hd.out])
    exact ⟨rfl, rfl⟩
theorem tl_range {p : Pl} (h : p.Ok) : 2 ≤ p.T + p.L ∧ p.T + p.L ≤ 256 := by have := h.t; have := h.l; have := h.tl; have := h.wn; have := h.nl; omega
set_option maxHeartbeats 400000 in
theorem bWidth_yes (p : Pl) (h : p.Ok) (w : World) :
   Calls Try.prog 169 #[planV p] w fun e w' => e = .returned (.int .i64 (p.T + p.L - 1)) ∧ Below w.heap.size w w' := by
  obtain ⟨r1, r2⟩ := tl_range h
  have m1 : decide (p.T + p.L - 1 < 0) = false := decide_eq_false (by omega)
  have m2 : (0 : Int) < p.T + p.L - 1 := by omega
  have HP := Blk.new w (planC p) 33
  have hB := below_alloc (Below.refl w.heap.size w) (.cells (planC p) 33)
  go_enter Try.func169, Try.ntmps169
  go_wp2_with fail
  refine (need_yes p h _).mono ?_
  rintro e w1 ⟨rfl, h1⟩
  have hB := bt_ hB h1
  go_wp2
  go_ret
  exact ⟨rfl, hB⟩
set_option maxHeartbeats 400000 in
theorem bCost_ok (p : Pl) (h : p.Ok) (n : Int) (h1 : 0 ≤ n) (h2 : n ≤ 240) (w : World) :
   Calls Try.prog 98 #[planV p, .int .i64 n] w fun e w' => e = .returned (.int .i64 ((p.T + p.L - 1) * n)) ∧ Below w.heap.size w w' := by
  obtain ⟨r1, r2⟩ := tl_range h
  have hd := Lib.hid (decide_eq_true (And.intro h1 h2))
  have m0 : (p.T + p.L - 1) * n ≤ 256 * 240 := Int.mul_le_mul (by omega) h2 h1 (by omega)
  have m1 : 0 ≤ (p.T + p.L - 1) * n := Int.mul_nonneg (by omega) h1
  have m2 : IntKind.i64.wrap ((p.T + p.L - 1) * n) = (p.T + p.L - 1) * n := wrapI _ (by omega) (by omega)
  have HP := Blk.new w (planC p) 33
  have hB := below_alloc (Below.refl w.heap.size w) (.cells (planC p) 33)
  go_enter Try.func98, Try.ntmps98
  go_wp2_with fail
  refine (bFew_c n _).mono ?_
  rintro e w_ ⟨rfl, rfl⟩
  rw [hd.out]
  go_wp2_with fail
  refine (bWidth_yes p h _).mono ?_
  rintro e w1 ⟨rfl, h3⟩
  have hB := bt_ hB h3
  go_wp2
  go_ret
  exact ⟨rfl, hB⟩
/-! ### check -/
set_option maxHeartbeats 400000 in
theorem bCheck_no (p : Pl) (h : ¬ p.Ok) (n t : Int) (w : World) :
   Calls Try.prog 168 #[planV p, .int .i64 n, .int .i64 t] w fun e w' => e = .returned (.int .i64 1) ∧ Below w.heap.size w w' := by
  have HP := Blk.new w (planC p) 33
  have hB := below_alloc (Below.refl w.heap.size w) (.cells (planC p) 33)
  go_enter Try.func168, Try.ntmps168
  go_wp2_with fail
  refine (right_no p h _).mono ?_
  rintro e w1 ⟨rfl, h1⟩
  go_wp2
  go_ret
  exact ⟨rfl, bt_ hB h1⟩
set_option maxHeartbeats 800000 in
theorem bCheck_two (p : Pl) (h : p.Ok) (n t : Int) (hn : ¬ ((0 ≤ n ∧ n ≤ 240) ∧ (1 ≤ t ∧ t ≤ p.N))) (w : World) :
   Calls Try.prog 168 #[planV p, .int .i64 n, .int .i64 t] w fun e w' => e = .returned (.int .i64 2) ∧ Below w.heap.size w w' := by
  by_cases hf : 0 ≤ n ∧ n ≤ 240
  · have hd := Lib.hid (decide_eq_true hf)
    have hd2 := Lib.hid (decide_eq_false (fun e => hn ⟨hf, e⟩ : ¬ (1 ≤ t ∧ t ≤ p.N)))
    clear hn hf
    have HP := Blk.new w (planC p) 33
    have hB := below_alloc (Below.refl w.heap.size w) (.cells (planC p) 33)
    go_enter Try.func168, Try.ntmps168
    go_wp2_with fail
    refine (right_yes p h _).mono ?_
    rintro e w1 ⟨rfl, h1⟩
    have HP := HP.below h1
    have hB := bt_ hB h1
    obtain ⟨c0, c1, c2, c3, c4, c5⟩ := cells6 HP
    go_wp2_with fail
    refine (bFew_c n _).mono ?_
    rintro e w_ ⟨rfl, rfl⟩
    rw [hd.out]
    go_wp2_with fail
    refine (is_yes p h t _).mono ?_
    rintro e w2 ⟨rfl, h2⟩
    rw [hd2.out]
    go_wp2
    go_ret
    exact ⟨rfl, bt_ hB h2⟩
  · have hd := Lib.hid (decide_eq_false hf)
    clear hn hf
    have HP := Blk.new w (planC p) 33
    have hB := below_alloc (Below.refl w.heap.size w) (.cells (planC p) 33)
    go_enter Try.func168, Try.ntmps168
    go_wp2_with fail
    refine (right_yes p h _).mono ?_
    rintro e w1 ⟨rfl, h1⟩
    have HP := HP.below h1
    have hB := bt_ hB h1
    obtain ⟨c0, c1, c2, c3, c4, c5⟩ := cells6 HP
    go_wp2_with fail
    refine (bFew_c n _).mono ?_
    rintro e w_ ⟨rfl, rfl⟩
    rw [hd.out]
    go_wp2
    go_ret
    exact ⟨rfl, hB⟩
set_option maxHeartbeats 800000 in
theorem bCheck_ok (p : Pl) (h : p.Ok) (n t : Int) (hn : (0 ≤ n ∧ n ≤ 240) ∧ (1 ≤ t ∧ t ≤ p.N)) (w : World) :
   Calls Try.prog 168 #[planV p, .int .i64 n, .int .i64 t] w fun e w' => e = .returned (.int .i64 0) ∧ Below w.heap.size w w' := by
  have hd := Lib.hid (decide_eq_true hn.1)
  have hd2 := Lib.hid (decide_eq_true hn.2)
  clear hn
  have HP := Blk.new w (planC p) 33
  have hB := below_alloc (Below.refl w.heap.size w) (.cells (planC p) 33)
  go_enter Try.func168, Try.ntmps168
  go_wp2_with fail
  refine (right_yes p h _).mono ?_
  rintro e w1 ⟨rfl, h1⟩
  have HP := HP.below h1
  have hB := bt_ hB h1
  obtain ⟨c0, c1, c2, c3, c4, c5⟩ := cells6 HP
  go_wp2_with fail
  refine (bFew_c n _).mono ?_
  rintro e w_ ⟨rfl, rfl⟩
  rw [hd.out]
  go_wp2_with fail
  refine (is_yes p h t _).mono ?_
  rintro e w2 ⟨rfl, h2⟩
  rw [hd2.out]
  go_wp2
  go_ret
  exact ⟨rfl, bt_ hB h2⟩
/-! ### Blind -/
/-- A stripe's blindings at x. -/
def bsh (W : Nat) (own : F) (tape : List F) (s : Nat) (x : F) : List F := (List.range s).map fun j => (x + own) * F.ev x (F.tp W tape j)
structure BEnv (w : World) (bs bf bo bt bn : Nat) (fb s W : Nat) (own : F) (tv : Value) (tape : List F) : Prop where
  s : w.cell? ⟨bs, 0, none⟩ = some (.int .i64 (s : Int))
  f : w.cell? ⟨bf, 0, none⟩ = some (fp fb)
  o : w.cell? ⟨bo, 0, none⟩ = some (.int .u8 (own.n : Int))
  t : w.cell? ⟨bt, 0, none⟩ = some tv
  n : w.cell? ⟨bn, 0, none⟩ = some (.int .i64 (W : Int))
  fld : IsField w fb
  ht : Rb w tv tape
theorem BEnv.below {w w1 : World} {bs bf bo bt bn : Nat} {fb s W : Nat} {own : F} {tv : Value} {tape : List F} (h : BEnv w bs bf bo bt bn fb s W own tv tape) (hb : Below w.heap.size w w1) : BEnv w1 bs bf bo bt bn fb s W own tv tape :=
  ⟨pw_cell_below hb h.s, pw_cell_below hb h.f, pw_cell_below hb h.o, pw_cell_below hb h.t, pw_cell_below hb h.n, h.fld.below hb, h.ht.below hb⟩
set_option maxRecDepth 100000 in
set_option maxHeartbeats 1600000 in
theorem bClos (bs bf bo bt bn : Nat) (fb s T : Nat) (own : F) (tv : Value) (tape : List F) (x : F) (w : World) (hE : BEnv w bs bf bo bt bn fb s T own tv tape) (hT : 1 ≤ T) (hT2 : T ≤ 256) (hs : s ≤ 240) (hlen : T * s ≤ tape.length) :
   Calls Try.prog 170 #[.int .u8 (x.n : Int), .pointer (some ⟨bs, 0, none⟩), .pointer (some ⟨bf, 0, none⟩), .pointer (some ⟨bo, 0, none⟩), .pointer (some ⟨bt, 0, none⟩), .pointer (some ⟨bn, 0, none⟩)] w fun e w' => ∃ z, e = .returned z ∧ Ob w w' z (bsh T own tape s x) ∧ Below w.heap.size w w' := by
  obtain ⟨At, ct, rfl, hct, _⟩ := id hE.ht
  obtain ⟨c1, c2, c3, c4, c5, hF, ht⟩ := id hE
  have hlt0 := kb_len (rk_C ht)
  have hB := Below.refl w.heap.size w
  have hE := Lib.hid hE
  go_enter Try.func170, Try.ntmps170
  go_wp2_with ((with_reducible refine gate_dst (N := 11) rfl ?_); refine mk_cap kb rfl 40 5 _ _ rfl .i64 _ rfl rfl Try.underlying40 (.int .u8 0) 1 infoB (by decide) ?h0 ?hl hB ?_; (case h0 => omega); (case hl => omega); intro v1 w1 ho hb hg; (obtain ⟨c1, c2, c3, c4, c5, hF, ht⟩ := hE.out.below hb))
  have hO := ho
  have hB := hb
  clear ho hb hg c1 c2 c3 c4 c5 hF ht
  go_loopw [8, 9, 13] (fun v _ i wr => ∃ k : Nat, k ≤ s ∧ i = .int .i64 k ∧ Ob w wr v (bsh T own tape k x) ∧ Below w.heap.size w wr) (fun _ _ i _ => s - (intOf i).toNat)
  case atStart => exact ⟨0, by omega, rfl, hO, hB⟩
  case round =>
    clear hO hB
    obtain ⟨k, hk, rfl, hO, hB⟩ := hrel
    by_cases hlt : k < s
    · obtain ⟨c1, c2, c3, c4, c5, hF, ht⟩ := hE.out.below hB
      have HS := Lib.hid (range_snoc (fun j => (x + own) * F.ev x (F.tp T tape j)) k)
      have hlen2 : Hid ((bsh T own tape k x).length ≤ 1000000000) := Lib.hid (by unfold bsh; rw [List.length_map, List.length_range]; omega)
      have hlo : k * T + T ≤ tape.length := Nat.le_trans (by rw [← Nat.succ_mul, Nat.mul_comm]; exact Nat.mul_le_mul_left _ hlt) hlen
      have m1 : (k : Int) * (T : Int) = ((k * T : Nat) : Int) := by skip; exact (Int.natCast_mul ..).symm
      have m2 : ((k : Int) + 1) * (T : Int) = ((k * T : Nat) : Int) + (T : Int) := by rw [Int.add_mul, Int.one_mul, m1]; skip
      obtain ⟨ad, rfl, _⟩ := kb_at (rk_C ht) (k * T) (by omega)
      have hmid := rb_mid ht (k * T) T hlo (by omega)
      have hT2' : Hid ((tape.drop (k * T)).take T = F.tp T tape k) := Lib.hid rfl
      rw [hT2'.out] at hmid
      generalize hlo' : k * T = lo at *
      replace hlo' := Lib.hid hlo'
      have n1 : IntKind.i64.wrap (lo : Int) = lo := wrapI _ (by omega) (by omega)
      have n2 : IntKind.i64.wrap ((lo : Int) + T) = lo + T := wrapI _ (by omega) (by omega)
      have n3 : IntKind.i64.wrap ((k : Int) + 1) = k + 1 := wrapI _ (by omega) (by omega)
      have s1 : (0 : Int) ≤ (lo : Int) + T := by omega
      have s2 : (lo : Int) + T ≤ (ct : Int) := by omega
      have s5 : (0 : Int) ≤ (lo : Int) := by omega
      have s3 : ((lo : Int) + T).toNat = lo + T := by omega
      have s4 : ¬ ct = lo := by omega
      generalize F.tp T tape k = tk at *
      go_wp2_with fail
      go_region_held3 (fun w' => w'.cell? ⟨bf, 0, none⟩ = some (fp fb) ∧ w'.cell? ⟨bo, 0, none⟩ = some (.int .u8 (own.n : Int)) ∧ w'.cell? ⟨bt, 0, none⟩ = some (.slice (some ad) tape.length ct) ∧ w'.cell? ⟨bn, 0, none⟩ = some (.int .i64 (T : Int)))
        (go_keep)
        (first
        | (go_at_call 39; refine (add_c x own _ _ _ rfl rfl).mono ?_; rintro e w5 ⟨rfl, rfl⟩)
        | (go_at_call 74; refine (pEval_c fb _ tk x _ (by first | exact hF | exact hF.drew | exact hF.drewN _) (by first | exact hmid | exact hmid.drew | exact hmid.drewN _)).mono ?_; rintro e w6 ⟨rfl, ⟨n6, rfl⟩⟩)
        | (go_at_call 40; refine (mul_c fb (x + own) (F.ev x tk) _ (by first | exact hF | exact hF.drew | exact hF.drewN _) _ _ rfl rfl).mono ?_; rintro e w7 ⟨rfl, ⟨n7, rfl⟩⟩)
        | (refine step_app_y (w0 := w) (by rfl) (.tmp 16) (.tmp 34) (by rfl) _ _ ((x + own) * F.ev x tk) _ (by rfl) (by rfl) (by rfl) (hO.below (pw_below_drewN (Below.refl _ _) _)) (pw_below_drewN hB _) hlen2.out ?_; intro v8 w8 hO8 hB8 hg8; obtain ⟨c1, c2, c3, c4, c5, hF, ht⟩ := hE.out.below hB8)
        | fail)
      have hO9 : Ob w w8 v8 (bsh T own tape (k + 1) x) := by unfold bsh; rw [HS.out]; exact hO8
      clear hO8 hO hE
      go_wp2
      exact ⟨⟨k + 1, by omega, by go_num, hO9, hB8⟩, by simp [intOf]; try omega⟩
    · obtain rfl : k = s := by omega
      go_wp2
      go_ret
      exact ⟨_, rfl, hO, hB⟩
set_option maxRecDepth 100000 in
set_option maxHeartbeats 1600000 in
theorem bBlind_no (b : Nat) (p : Pl) (h : ¬ p.Ok) (n t : Int) (tv : Value) (tape : List F) (w : World) (ht : Rb w tv tape) :
   Calls Try.prog 95 #[fp b, planV p, .int .i64 n, .int .i64 t, tv] w fun e w' => e = .returned (.tuple #[.slice none 0 0, .int .i64 1]) ∧ Below w.heap.size w w' := by
  obtain ⟨At, ct, rfl, hct, hct2⟩ := ht
  have ht : Rb w (.slice At tape.length ct) tape := ⟨At, ct, rfl, hct, hct2⟩
  have hW := box4 w #[fp b] 22 (planC p) 33 #[.int .i64 n] 3 #[.slice At tape.length ct] 40
  go_enter Try.func95, Try.ntmps95
  go_wp2_with fail
  generalize ((((w.alloc (.cells #[fp b] 22)).alloc (.cells (planC p) 33)).alloc (.cells #[.int .i64 n] 3)).alloc (.cells #[.slice At tape.length ct] 40)) = W0 at *
  obtain ⟨hX, hB, hz⟩ := hW
  obtain ⟨c0, c1, c2, c3, c4, c5⟩ := cells6 hX.k2
  have cs := hX.k3.one
  go_wp2_with fail
  refine (bCheck_no p h n t _).mono ?_
  rintro e w1 ⟨rfl, hb⟩
  go_wp2
  go_ret2
  exact ⟨rfl, bt_ hB hb⟩
set_option maxRecDepth 100000 in
set_option maxHeartbeats 1600000 in
theorem bBlind_two (b : Nat) (p : Pl) (h : p.Ok) (n t : Int) (hn : ¬ ((0 ≤ n ∧ n ≤ 240) ∧ (1 ≤ t ∧ t ≤ p.N))) (tv : Value) (tape : List F) (w : World) (ht : Rb w tv tape) :
   Calls Try.prog 95 #[fp b, planV p, .int .i64 n, .int .i64 t, tv] w fun e w' => e = .returned (.tuple #[.slice none 0 0, .int .i64 2]) ∧ Below w.heap.size w w' := by
  replace hn := Lib.hid hn
  obtain ⟨At, ct, rfl, hct, hct2⟩ := ht
  have ht : Rb w (.slice At tape.length ct) tape := ⟨At, ct, rfl, hct, hct2⟩
  have hW := box4 w #[fp b] 22 (planC p) 33 #[.int .i64 n] 3 #[.slice At tape.length ct] 40
  go_enter Try.func95, Try.ntmps95
  go_wp2_with fail
  generalize ((((w.alloc (.cells #[fp b] 22)).alloc (.cells (planC p) 33)).alloc (.cells #[.int .i64 n] 3)).alloc (.cells #[.slice At tape.length ct] 40)) = W0 at *
  obtain ⟨hX, hB, hz⟩ := hW
  obtain ⟨c0, c1, c2, c3, c4, c5⟩ := cells6 hX.k2
  have cs := hX.k3.one
  go_wp2_with fail
  refine (bCheck_two p h n t hn.out _).mono ?_
  rintro e w1 ⟨rfl, hb⟩
  go_wp2
  go_ret2
  exact ⟨rfl, bt_ hB hb⟩
set_option maxRecDepth 100000 in
set_option maxHeartbeats 1600000 in
theorem bBlind_short (b : Nat) (p : Pl) (h : p.Ok) (n t : Int) (hn : (0 ≤ n ∧ n ≤ 240) ∧ (1 ≤ t ∧ t ≤ p.N)) (tv : Value) (tape : List F) (w : World) (ht : Rb w tv tape) (hl : (tape.length : Int) < (p.T + p.L - 1) * n) :
   Calls Try.prog 95 #[fp b, planV p, .int .i64 n, .int .i64 t, tv] w fun e w' => e = .returned (.tuple #[.slice none 0 0, .int .i64 12]) ∧ Below w.heap.size w w' := by
  replace hn := Lib.hid hn
  have t1 : decide ((tape.length : Int) < (p.T + p.L - 1) * n) = true := decide_eq_true hl
  obtain ⟨At, ct, rfl, hct, hct2⟩ := ht
  have ht : Rb w (.slice At tape.length ct) tape := ⟨At, ct, rfl, hct, hct2⟩
  have hW := box4 w #[fp b] 22 (planC p) 33 #[.int .i64 n] 3 #[.slice At tape.length ct] 40
  go_enter Try.func95, Try.ntmps95
  go_wp2_with fail
  generalize ((((w.alloc (.cells #[fp b] 22)).alloc (.cells (planC p) 33)).alloc (.cells #[.int .i64 n] 3)).alloc (.cells #[.slice At tape.length ct] 40)) = W0 at *
  obtain ⟨hX, hB, hz⟩ := hW
  obtain ⟨c0, c1, c2, c3, c4, c5⟩ := cells6 hX.k2
  have cs := hX.k3.one
  go_wp2_with fail
  refine (bCheck_ok p h n t hn.out _).mono ?_
  rintro e w1 ⟨rfl, hb⟩
  have hX := hX.below hb
  have hB := bt_ hB hb
  obtain ⟨c0, c1, c2, c3, c4, c5⟩ := cells6 hX.k2
  have cf := hX.k1.one
  have cs := hX.k3.one
  have ct' := hX.k4.one
  clear hb
  go_wp2_with fail
  go_region_held3 (fun w' => w'.cell? ⟨w.heap.size, 0, none⟩ = some (fp b) ∧ w'.cell? ⟨w.heap.size + 1, 0, none⟩ = some (.int .i64 p.N) ∧ w'.cell? ⟨w.heap.size + 1, 1, none⟩ = some (.int .i64 p.T) ∧ w'.cell? ⟨w.heap.size + 1, 2, none⟩ = some (.int .i64 p.L) ∧ w'.cell? ⟨w.heap.size + 1, 3, none⟩ = some (.int .i64 p.W) ∧ w'.cell? ⟨w.heap.size + 1, 4, none⟩ = some (.int .i64 p.S) ∧ w'.cell? ⟨w.heap.size + 1, 5, none⟩ = some (.int .i64 p.R) ∧ w'.cell? ⟨w.heap.size + 2, 0, none⟩ = some (.int .i64 n) ∧ w'.cell? ⟨w.heap.size + 3, 0, none⟩ = some (.slice At tape.length ct))
    (go_keep)
    (first
      | (go_at_call 98; refine (bCost_ok p h n hn.out.1.1 hn.out.1.2 _).mono ?_; rintro e w6 ⟨rfl, h6⟩; (repeat (first | replace h6 := ba h6 | replace h6 := buN h6 | replace h6 := bu h6)); have hX := hX.below h6; have hzz := hX.k4.lt; have hB := bt_ hB h6; obtain ⟨c0, c1, c2, c3, c4, c5⟩ := cells6 hX.k2; have cf := hX.k1.one; have cs := hX.k3.one; have ct' := hX.k4.one)
      | fail)
  go_wp2
  go_ret2
  exact ⟨rfl, hB⟩
set_option maxRecDepth 100000 in
set_option maxHeartbeats 1600000 in
theorem bBlind_ok (b : Nat) (p : Pl) (h : p.Ok) (n : Nat) (t : Int) (hn2 : (n : Int) ≤ 240) (hn3 : 1 ≤ t ∧ t ≤ p.N) (W : Nat) (eW : p.T + p.L - 1 = W) (tv : Value) (tape : List F) (w : World) (hF : IsField w b) (ht : Rb w tv tape) (hl : W * n ≤ tape.length) :
   Calls Try.prog 95 #[fp b, planV p, .int .i64 n, .int .i64 t, tv] w fun e w' => ∃ z, e = .returned (.tuple #[z, .int .i64 0]) ∧ Obb w w' z (((allOf p).map point).map (bsh W (point t) tape n)) ∧ Below w.heap.size w w' := by
  have hn : Hid ((0 ≤ (n : Int) ∧ (n : Int) ≤ 240) ∧ (1 ≤ t ∧ t ≤ p.N)) := Lib.hid ⟨⟨by omega, hn2⟩, hn3⟩
  have t1 : decide ((tape.length : Int) < (p.T + p.L - 1) * n) = false := decide_eq_false (by
    rw [eW, ← Int.natCast_mul]; omega)
  have eW2 : Hid (1 ≤ W ∧ W ≤ 256) := Lib.hid (by have := tl_range h; omega)
  replace eW := Lib.hid eW
  clear hn3
  obtain ⟨At, ct, rfl, hct, hct2⟩ := ht
  have ht : Rb w (.slice At tape.length ct) tape := ⟨At, ct, rfl, hct, hct2⟩
  have hW := box4 w #[fp b] 22 (planC p) 33 #[.int .i64 n] 3 #[.slice At tape.length ct] 40
  go_enter Try.func95, Try.ntmps95
  go_wp2_with fail
  generalize ((((w.alloc (.cells #[fp b] 22)).alloc (.cells (planC p) 33)).alloc (.cells #[.int .i64 n] 3)).alloc (.cells #[.slice At tape.length ct] 40)) = W0 at *
  obtain ⟨hX, hB, hz⟩ := hW
  obtain ⟨c0, c1, c2, c3, c4, c5⟩ := cells6 hX.k2
  have cs := hX.k3.one
  go_wp2_with fail
  refine (bCheck_ok p h n t hn.out _).mono ?_
  rintro e w1 ⟨rfl, hb⟩
  have hX := hX.below hb
  have hB := bt_ hB hb
  obtain ⟨c0, c1, c2, c3, c4, c5⟩ := cells6 hX.k2
  have cf := hX.k1.one
  have cs := hX.k3.one
  have ct' := hX.k4.one
  clear hb
  go_wp2_with fail
  go_region_held3 (fun w' => w'.cell? ⟨w.heap.size, 0, none⟩ = some (fp b) ∧ w'.cell? ⟨w.heap.size + 1, 0, none⟩ = some (.int .i64 p.N) ∧ w'.cell? ⟨w.heap.size + 1, 1, none⟩ = some (.int .i64 p.T) ∧ w'.cell? ⟨w.heap.size + 1, 2, none⟩ = some (.int .i64 p.L) ∧ w'.cell? ⟨w.heap.size + 1, 3, none⟩ = some (.int .i64 p.W) ∧ w'.cell? ⟨w.heap.size + 1, 4, none⟩ = some (.int .i64 p.S) ∧ w'.cell? ⟨w.heap.size + 1, 5, none⟩ = some (.int .i64 p.R) ∧ w'.cell? ⟨w.heap.size + 2, 0, none⟩ = some (.int .i64 n) ∧ w'.cell? ⟨w.heap.size + 3, 0, none⟩ = some (.slice At tape.length ct))
    (go_keep)
    (first
      | (go_at_call 98; refine (bCost_ok p h n hn.out.1.1 hn.out.1.2 _).mono ?_; rintro e w6 ⟨rfl, h6⟩; (repeat (first | replace h6 := ba h6 | replace h6 := buN h6 | replace h6 := bu h6)); have hX := hX.below h6; have hzz := hX.k4.lt; have hB := bt_ hB h6; obtain ⟨c0, c1, c2, c3, c4, c5⟩ := cells6 hX.k2; have cf := hX.k1.one; have cs := hX.k3.one; have ct' := hX.k4.one)
      | fail)
  go_wp2_with fail
  refine (bWidth_yes p h _).mono ?_
  rintro e w7 ⟨rfl, h7⟩
  rw [eW.out]
  have hX := hX.below h7
  have hB := bt_ hB h7
  obtain ⟨c0, c1, c2, c3, c4, c5⟩ := cells6 hX.k2
  clear h7
  have hX := (hX.alloc (.cells #[.int .i64 (W : Int)] 3)).alloc (.cells #[.int .u8 ((point t).n : Int)] 5)
  have hKn := (Blk.new w7 #[.int .i64 (W : Int)] 3).alloc (.cells #[.int .u8 ((point t).n : Int)] 5)
  have hKo := Blk.new' (w7.alloc (.cells #[.int .i64 (W : Int)] 3)) #[.int .u8 ((point t).n : Int)] 5 (World.size_alloc _ _)
  have hB := below_alloc (below_alloc hB (.cells #[.int .i64 (W : Int)] 3)) (.cells #[.int .u8 ((point t).n : Int)] 5)
  have hXx := Lib.hid hX
  obtain ⟨c0, c1, c2, c3, c4, c5⟩ := cells6 hX.k2
  go_wp2_with fail
  refine (point_c t _).mono ?_
  rintro e w_ ⟨rfl, rfl⟩
  obtain ⟨T, L, N, eT9, eL, eN, a1, a2, a3, a4⟩ := Pl.Ok.nats h
  have hN1 : 0 ≤ p.N := by omega
  have hN2 : p.N ≤ 256 := by omega
  have e3 : Hid (((allOf p).map point).length = N) := Lib.hid (by rw [List.length_map, all_len]; omega)
  have e4 : Hid ((allOf p).length < 1000000) := Lib.hid (by rw [all_len]; omega)
  clear eT9 eL
  replace eN := Lib.hid eN
  generalize hown : point t = own at *
  have hBx := Below.refl ((w7.alloc (.cells #[.int .i64 (W : Int)] 3)).alloc (.cells #[.int .u8 (own.n : Int)] 5)).heap.size ((w7.alloc (.cells #[.int .i64 (W : Int)] 3)).alloc (.cells #[.int .u8 (own.n : Int)] 5))
  go_wp2_with ((with_reducible refine gate_dst (N := 39) rfl ?_); refine mk_cap kbb rfl 66 40 _ _ rfl .i64 _ rfl rfl Try.underlying66 (.slice none 0 0) 24 infoR (by decide) ?h0 ?hl hBx ?_; (case h0 => omega); (case hl => omega); intro v1 w1 ho hb hg; (have hX := hX.below hb; obtain ⟨c0, c1, c2, c3, c4, c5⟩ := cells6 hX.k2))
  generalize ((w7.alloc (.cells #[.int .i64 (W : Int)] 3)).alloc (.cells #[.int .u8 (own.n : Int)] 5)) = wc at *
  have hO := ho
  clear ho hg
  go_wp2_with fail
  refine (all_yes p h _).mono ?_
  rintro e w2 ⟨v2, rfl, oA, h2⟩
  have hO := hO.below h2
  have hb := bt_ hb h2
  go_wp2_with fail
  refine (points_c _ _ _ oA.rk e4.out).mono ?_
  rintro e w3 ⟨v3, rfl, oP, h3⟩
  have hO := hO.below h3
  have oP := oP.lower (bt_ hb (Below.refl _ _))
  have hb := bt_ hb h3
  clear h2 h3 oA hX c0 c1 c2 c3 c4 c5
  obtain ⟨A3, n3, rfl⟩ := rk_form oP.rk
  rw [e3.out] at oP ⊢
  go_wp2_with fail
  go_loopw [16, 18, 44] (fun s _ i wr => ∃ k : Nat, k ≤ N ∧ i = .int .i64 k ∧ Obb wc wr s ((((allOf p).map point).take k).map (bsh W own tape n)) ∧ Ob wc wr (.slice A3 N n3) ((allOf p).map point) ∧ Below wc.heap.size wc wr) (fun _ _ i _ => N - (intOf i).toNat)
  case atStart => exact ⟨0, by omega, rfl, hO, oP, hb⟩
  case round =>
    clear hO oP hb
    obtain ⟨k, hk, rfl, hO, oP, hb⟩ := hrel
    by_cases hlt : k < N
    · obtain ⟨ad, rfl, c1⟩ := kb_at (rk_C oP.rk) k (by rw [e3.out]; exact hlt)
      have HS := Lib.hid (congrArg (List.map (bsh W own tape n)) (take_snoc' ((allOf p).map point) k 0 (by rw [e3.out]; exact hlt)))
      generalize ((allOf p).map point).getD k 0 = x at *
      have hX := hXx.out.below hb
      have hE : BEnv wr (w.heap.size + 1 + 1) w.heap.size (w7.heap.size + 1) (w.heap.size + 1 + 1 + 1) w7.heap.size b n W own (.slice At tape.length ct) tape :=
        ⟨hX.k3.one, hX.k1.one, (hKo.below hb).one, hX.k4.one, (hKn.below hb).one, (hF.below hB).below hb, (ht.below hB).below hb⟩
      have hE := Lib.hid hE
      clear hX
      go_wp2_with fail
      refine (bClos _ _ _ _ _ b n W own _ tape x wr hE.out eW2.out.1 eW2.out.2 (by omega) hl).mono ?_
      rintro e w5 ⟨z, rfl, oz, h5⟩
      have oz := oz.lower hb
      have hO := hO.below h5
      have oP := oP.below h5
      have hb := bt_ hb h5
      have hlen : Hid ((((allOf p).map point).take k).length + 1 ≤ 5000000000) := Lib.hid (by rw [List.length_take]; omega)
      clear h5 hE c1
      generalize hrow : bsh W own tape n x = row at *
      replace hrow := Lib.hid hrow
      obtain ⟨A6, c6, rfl⟩ := rk_form oz.rk
      go_wp2_with (at_builtin; refine app_row rfl (.tmp 48) (.tmp 52) 66 40 rfl Try.underlying66 infoR (by decide) _ _ _ _ rfl rfl hO oz hb ?hl ?_; (case hl => (first | (simp; omega) | omega)); intro v1 w1 ho hb hg)
      exact ⟨⟨k + 1, by omega, by go_num, by rw [HS.out, List.map_append]; show Own _ _ _ _ _ (_ ++ [bsh W own tape n x]); rw [hrow.out]; exact ho, Ob.grown oP hO hg, hb⟩, by simp [intOf]; try omega⟩
    · obtain rfl : k = N := by omega
      rw [List.take_of_length_le (by rw [e3.out]; omega)] at hO
      go_wp2
      go_ret2
      exact ⟨_, rfl, by rw [hown]; exact hO.lower hB, bt_ hB hb⟩
end Go.Proofs.Ytijeabhfddaoaaa
