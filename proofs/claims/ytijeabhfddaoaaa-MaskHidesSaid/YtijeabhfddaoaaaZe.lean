/- The walks of package zero. -/
import Derived.Test.YtijeabhfddaoaaaPo
import Derived.Test.YtijeabhfddaoaaaK5
import Derived.Test.YtijeabhfddaoaaaM11
namespace Go.Proofs.Ytijeabhfddaoaaa
set_option linter.unusedVariables false
open Go.RowKit Go.Proofs.YtijeabhfddaoaaaW.PrintWords Go.Proofs.Sh

set_option maxHeartbeats 400000 in
theorem zFew_c (n : Int) (w : World) :
   Calls Try.prog 184 #[.int .i64 n] w fun e w' => e = .returned (.bool (decide (0 ≤ n ∧ n ≤ 240))) ∧ w = w' := by
  by_cases h1 : 0 ≤ n
  · by_cases h2 : n ≤ 240
    · have hd := Lib.hid (decide_eq_true (And.intro h1 h2))
      go_enter Try.func184, Try.ntmps184
      go_wp2
      go_ret
      (try rw [hd.out])
      exact ⟨rfl, rfl⟩
    · have hd := Lib.hid (decide_eq_false (fun h : 0 ≤ n ∧ n ≤ 240 => h2 h.2))
      have t2 : decide (n ≤ 240) = false := decide_eq_false h2
      go_enter Try.func184, Try.ntmps184
      go_wp2
      go_ret
      (try rw [hd.out])
      exact ⟨rfl, rfl⟩
  · have hd := Lib.hid (decide_eq_false (fun h : 0 ≤ n ∧ n ≤ 240 => h1 h.1))
    have t2 : decide (0 ≤ n) = false := decide_eq_false h1
    go_enter Try.func184, Try.ntmps184
    go_wp2
    go_ret
    (try rw [hd.out])
    exact ⟨rfl, rfl⟩
/-- A stripe's zero shares at x. -/
def zsh (T : Nat) (root tape : List F) (s : Nat) (x : F) : List F := (List.range s).map fun j => F.ev x root * F.ev x (F.tp T tape j)
/-- The variables that are caught. -/
structure ZEnv (w : World) (bf br bs bt bp : Nat) (fb T s : Nat) (rv tv : Value) (root tape : List F) : Prop where
  f : w.cell? ⟨bf, 0, none⟩ = some (fp fb)
  r : w.cell? ⟨br, 0, none⟩ = some rv
  s : w.cell? ⟨bs, 0, none⟩ = some (.int .i64 (s : Int))
  t : w.cell? ⟨bt, 0, none⟩ = some tv
  p : w.cell? ⟨bp, 1, none⟩ = some (.int .i64 (T : Int))
  fld : IsField w fb
  hr : Rb w rv root
  ht : Rb w tv tape
theorem ZEnv.below {w w1 : World} {bf br bs bt bp : Nat} {fb T s : Nat} {rv tv : Value} {root tape : List F} (h : ZEnv w bf br bs bt bp fb T s rv tv root tape) (hb : Below w.heap.size w w1) : ZEnv w1 bf br bs bt bp fb T s rv tv root tape :=
  ⟨pw_cell_below hb h.f, pw_cell_below hb h.r, pw_cell_below hb h.s, pw_cell_below hb h.t, pw_cell_below hb h.p, h.fld.below hb, h.hr.below hb, h.ht.below hb⟩
set_option maxRecDepth 100000 in
set_option maxHeartbeats 1600000 in
theorem zClos (bf br bs bt bp : Nat) (fb T s : Nat) (rv tv : Value) (root tape : List F) (x : F) (w : World) (hE : ZEnv w bf br bs bt bp fb T s rv tv root tape) (hT : 1 ≤ T) (hT2 : T ≤ 256) (hs : s ≤ 240) (hlen : T * s ≤ tape.length) :
   Calls Try.prog 185 #[.int .u8 (x.n : Int), .pointer (some ⟨bf, 0, none⟩), .pointer (some ⟨br, 0, none⟩), .pointer (some ⟨bs, 0, none⟩), .pointer (some ⟨bt, 0, none⟩), .pointer (some ⟨bp, 0, none⟩)] w fun e w' => ∃ z, e = .returned z ∧ Ob w w' z (zsh T root tape s x) ∧ Below w.heap.size w w' := by
  obtain ⟨At, ct, rfl, hct, _⟩ := id hE.ht
  obtain ⟨c1, c2, c3, c4, c5, hF, hr, ht⟩ := id hE
  have hlt0 := kb_len (rk_C ht)
  have hB := Below.refl w.heap.size w
  have hE := Lib.hid hE
  go_enter Try.func185, Try.ntmps185
  go_wp2_with fail
  refine (pEval_c _ _ _ x _ hF hr).mono ?_
  rintro e w1 ⟨rfl, h⟩
  have hB := bd hB h
  obtain ⟨c1, c2, c3, c4, c5, hF, hr, ht⟩ := hE.out.below hB
  go_wp2_with ((with_reducible refine gate_dst (N := 16) rfl ?_); refine mk_cap kb rfl 40 5 _ _ rfl .i64 _ rfl rfl Try.underlying40 (.int .u8 0) 1 infoB (by decide) ?h0 ?hl hB ?_; (case h0 => omega); (case hl => omega); intro v1 w1 ho hb hg; (obtain ⟨c1, c2, c3, c4, c5, hF, hr, ht⟩ := hE.out.below hb))
  generalize hy0 : F.ev x root = y0 at *
  have hO := ho
  have hB := hb
  clear ho hb hg c1 c2 c3 c4 c5 hF hr ht h
  go_loopw [9, 10, 18] (fun v _ i wr => ∃ k : Nat, k ≤ s ∧ i = .int .i64 k ∧ Ob w wr v (zsh T root tape k x) ∧ Below w.heap.size w wr) (fun _ _ i _ => s - (intOf i).toNat)
  case atStart => exact ⟨0, by omega, rfl, hO, hB⟩
  case round =>
    clear hO hB
    obtain ⟨k, hk, rfl, hO, hB⟩ := hrel
    by_cases hlt : k < s
    · obtain ⟨c1, c2, c3, c4, c5, hF, hr, ht⟩ := hE.out.below hB
      have hlo : k * T + T ≤ tape.length := Nat.le_trans (by rw [← Nat.succ_mul, Nat.mul_comm]; exact Nat.mul_le_mul_left _ hlt) hlen
      have m1 : (k : Int) * (T : Int) = ((k * T : Nat) : Int) := (Int.natCast_mul ..).symm
      have m2 : ((k : Int) + 1) * (T : Int) = ((k * T : Nat) : Int) + (T : Int) := by rw [Int.add_mul, Int.one_mul, m1]
      have HS := Lib.hid (range_snoc (fun j => y0 * F.ev x (F.tp T tape j)) k)
      have HZ : Hid (zsh T root tape k x = (List.range k).map (fun j => y0 * F.ev x (F.tp T tape j))) := Lib.hid (by rw [← hy0]; rfl)
      have HZ' : Hid (zsh T root tape (k + 1) x = (List.range (k + 1)).map (fun j => y0 * F.ev x (F.tp T tape j))) := Lib.hid (by rw [← hy0]; rfl)
      have hlen2 : Hid ((zsh T root tape k x).length ≤ 1000000000) := Lib.hid (by unfold zsh; simp; omega)
      obtain ⟨ad, rfl, _⟩ := kb_at (rk_C ht) (k * T) (by omega)
      have hmid := rb_mid ht (k * T) T hlo (by omega)
      have hT2' : Hid ((tape.drop (k * T)).take T = F.tp T tape k) := Lib.hid rfl
      rw [hT2'.out] at hmid
      generalize hlo' : k * T = lo at *
      replace hlo' := Lib.hid hlo'
      have n1 : IntKind.i64.wrap (lo : Int) = lo := wrapI _ (by omega) (by omega)
      have n2 : IntKind.i64.wrap ((lo : Int) + T) = lo + T := wrapI _ (by omega) (by omega)
      have n3 : IntKind.i64.wrap ((k : Int) + 1) = k + 1 := wrapI _ (by omega) (by omega)
      have s1 : (0 : Int) ≤ (lo : Int) + T := by omega
      have s2 : (lo : Int) + T ≤ (ct : Int) := by omega
      have s3 : ((lo : Int) + T).toNat = lo + T := by omega
      have s4 : ¬ ct = lo := by omega
      generalize F.tp T tape k = tk at *
      go_wp2_with fail
      go_region_held3 (fun w' => w'.cell? ⟨bf, 0, none⟩ = some (fp fb) ∧ w'.cell? ⟨bt, 0, none⟩ = some (.slice (some ad) tape.length ct) ∧ w'.cell? ⟨bp, 1, none⟩ = some (.int .i64 (T : Int)))
        (go_keep)
        (first
        | (go_at_call 74; refine (pEval_c fb _ tk x _ (by first | exact hF | exact hF.drew | exact hF.drewN _) (by first | exact hmid | exact hmid.drew | exact hmid.drewN _)).mono ?_; rintro e w6 ⟨rfl, ⟨n6, rfl⟩⟩)
        | (go_at_call 40; refine (mul_c fb y0 (F.ev x tk) _ (by first | exact hF | exact hF.drew | exact hF.drewN _) _ _ rfl rfl).mono ?_; rintro e w7 ⟨rfl, ⟨n7, rfl⟩⟩)
        | (refine step_app_y (w0 := w) (by rfl) (.tmp 21) (.tmp 39) (by rfl) u9 _ (y0 * F.ev x tk) _ (by rfl) (by rfl) (by rfl) (hO.below (pw_below_drewN (Below.refl _ _) _)) (pw_below_drewN hB _) hlen2.out ?_; intro v8 w8 hO8 hB8 hg8; obtain ⟨c1, c2, c3, c4, c5, hF, hr, ht⟩ := hE.out.below hB8)
        | fail)
      have hO9 : Ob w w8 v8 (zsh T root tape (k + 1) x) := by rw [HZ'.out, HS.out, ← HZ.out]; exact hO8
      clear hO8 hO hE
      go_wp2
      exact ⟨⟨k + 1, by omega, by go_num, hO9, hB8⟩, by simp [intOf]; try omega⟩
    · obtain rfl : k = s := by omega
      go_wp2
      go_ret
      exact ⟨_, rfl, hO, hB⟩
set_option maxRecDepth 100000 in
set_option maxHeartbeats 800000 in
theorem zCost_ok (p : Pl) (h : p.Ok) (n : Int) (h1 : 0 ≤ n) (h2 : n ≤ 240) (w : World) :
   Calls Try.prog 115 #[planV p, .int .i64 n] w fun e w' => e = .returned (.int .i64 (p.T * n)) ∧ Below w.heap.size w w' := by
  have c0 := (isPlan_alloc w p 33).t
  have hd := Lib.hid (decide_eq_true (And.intro h1 h2))
  have hB := below_alloc (Below.refl w.heap.size w) (.cells (planC p) 33)
  have m0 : p.T * n ≤ 256 * 240 := Int.mul_le_mul (by have := h.t; have := h.tl; have := h.wn; have := h.nl; have := h.l; omega) h2 h1 (by omega)
  have m1 : 0 ≤ p.T * n := Int.mul_nonneg (by have := h.t; omega) h1
  have m2 : IntKind.i64.wrap (p.T * n) = p.T * n := wrapI _ (by omega) (by omega)
  go_enter Try.func115, Try.ntmps115
  go_wp2_with fail
  refine (right_yes p h _).mono ?_
  rintro e w1 ⟨rfl, hb⟩
  have c0 := pw_cell_below hb c0
  go_wp2_with fail
  refine (zFew_c n _).mono ?_
  rintro e w_ ⟨rfl, rfl⟩
  rw [hd.out]
  go_wp2
  go_ret
  exact ⟨rfl, bt_ hB hb⟩
set_option maxRecDepth 100000 in
set_option maxHeartbeats 800000 in
theorem zCost_few (p : Pl) (h : p.Ok) (n : Int) (h1 : ¬ (0 ≤ n ∧ n ≤ 240)) (w : World) :
   Calls Try.prog 115 #[planV p, .int .i64 n] w fun e w' => e = .returned (.int .i64 0) ∧ Below w.heap.size w w' := by
  have hd := Lib.hid (decide_eq_false h1)
  have hB := below_alloc (Below.refl w.heap.size w) (.cells (planC p) 33)
  go_enter Try.func115, Try.ntmps115
  go_wp2_with fail
  refine (right_yes p h _).mono ?_
  rintro e w1 ⟨rfl, hb⟩
  go_wp2_with fail
  refine (zFew_c n _).mono ?_
  rintro e w_ ⟨rfl, rfl⟩
  rw [hd.out]
  go_wp2
  go_ret
  exact ⟨rfl, bt_ hB hb⟩
set_option maxRecDepth 100000 in
set_option maxHeartbeats 800000 in
theorem zCost_no (p : Pl) (h : ¬ p.Ok) (n : Int) (w : World) :
   Calls Try.prog 115 #[planV p, .int .i64 n] w fun e w' => e = .returned (.int .i64 0) ∧ Below w.heap.size w w' := by
  have hB := below_alloc (Below.refl w.heap.size w) (.cells (planC p) 33)
  go_enter Try.func115, Try.ntmps115
  go_wp2_with fail
  refine (right_no p h _).mono ?_
  rintro e w1 ⟨rfl, hb⟩
  go_wp2
  go_ret
  exact ⟨rfl, bt_ hB hb⟩
/-! ### Zero -/
theorem zKeep {b : Nat} {p : Pl} {n : Int} {v : Value} {B g : Nat} {w : World} (hX : Box4 w B #[fp b] 22 (planC p) 33 #[.int .i64 n] 3 #[v] 40) (hne : B + 4 ≤ g) (u : Value) :
    (w.setCell ⟨g, 0, none⟩ u).cell? ⟨B, 0, none⟩ = some (fp b) ∧ (w.setCell ⟨g, 0, none⟩ u).cell? ⟨B + 1, 0, none⟩ = some (.int .i64 p.N) ∧ (w.setCell ⟨g, 0, none⟩ u).cell? ⟨B + 1, 1, none⟩ = some (.int .i64 p.T) ∧ (w.setCell ⟨g, 0, none⟩ u).cell? ⟨B + 1, 2, none⟩ = some (.int .i64 p.L) ∧ (w.setCell ⟨g, 0, none⟩ u).cell? ⟨B + 1, 3, none⟩ = some (.int .i64 p.W) ∧ (w.setCell ⟨g, 0, none⟩ u).cell? ⟨B + 1, 4, none⟩ = some (.int .i64 p.S) ∧ (w.setCell ⟨g, 0, none⟩ u).cell? ⟨B + 1, 5, none⟩ = some (.int .i64 p.R) ∧ (w.setCell ⟨g, 0, none⟩ u).cell? ⟨B + 2, 0, none⟩ = some (.int .i64 n) ∧ (w.setCell ⟨g, 0, none⟩ u).cell? ⟨B + 3, 0, none⟩ = some v := by
  have h := hX.far hne 0 u
  obtain ⟨d0, d1, d2, d3, d4, d5⟩ := cells6 h.k2
  exact ⟨h.k1.one, d0, d1, d2, d3, d4, d5, h.k3.one, h.k4.one⟩
set_option maxRecDepth 100000 in
set_option maxHeartbeats 1600000 in
theorem zZero_no (b : Nat) (p : Pl) (h : ¬ p.Ok) (n : Int) (tv : Value) (tape : List F) (w : World) (ht : Rb w tv tape) :
   Calls Try.prog 113 #[fp b, planV p, .int .i64 n, tv] w fun e w' => e = .returned (.tuple #[.slice none 0 0, .int .i64 1]) ∧ Below w.heap.size w w' := by
  obtain ⟨At, ct, rfl, hct, hct2⟩ := ht
  have ht : Rb w (.slice At tape.length ct) tape := ⟨At, ct, rfl, hct, hct2⟩
  have hW := box4 w #[fp b] 22 (planC p) 33 #[.int .i64 n] 3 #[.slice At tape.length ct] 40
  have hsz := w.heap.size
  go_enter Try.func113, Try.ntmps113
  go_wp2_with fail
  generalize ((((w.alloc (.cells #[fp b] 22)).alloc (.cells (planC p) 33)).alloc (.cells #[.int .i64 n] 3)).alloc (.cells #[.slice At tape.length ct] 40)) = W0 at *
  obtain ⟨hX, hB, hz⟩ := hW
  obtain ⟨c0, c1, c2, c3, c4, c5⟩ := cells6 hX.k2
  go_wp2_with fail
  refine (right_no p h _).mono ?_
  rintro e w1 ⟨rfl, hb⟩
  go_wp2
  go_ret2
  exact ⟨rfl, bt_ hB hb⟩
set_option maxRecDepth 100000 in
set_option maxHeartbeats 1600000 in
theorem zZero_few (b : Nat) (p : Pl) (h : p.Ok) (n : Int) (hn : ¬ (0 ≤ n ∧ n ≤ 240)) (tv : Value) (tape : List F) (w : World) (ht : Rb w tv tape) :
   Calls Try.prog 113 #[fp b, planV p, .int .i64 n, tv] w fun e w' => e = .returned (.tuple #[.slice none 0 0, .int .i64 2]) ∧ Below w.heap.size w w' := by
  have hd := Lib.hid (decide_eq_false hn)
  obtain ⟨At, ct, rfl, hct, hct2⟩ := ht
  have ht : Rb w (.slice At tape.length ct) tape := ⟨At, ct, rfl, hct, hct2⟩
  have hW := box4 w #[fp b] 22 (planC p) 33 #[.int .i64 n] 3 #[.slice At tape.length ct] 40
  have hsz := w.heap.size
  go_enter Try.func113, Try.ntmps113
  go_wp2_with fail
  generalize ((((w.alloc (.cells #[fp b] 22)).alloc (.cells (planC p) 33)).alloc (.cells #[.int .i64 n] 3)).alloc (.cells #[.slice At tape.length ct] 40)) = W0 at *
  obtain ⟨hX, hB, hz⟩ := hW
  obtain ⟨c0, c1, c2, c3, c4, c5⟩ := cells6 hX.k2
  go_wp2_with fail
  refine (right_yes p h _).mono ?_
  rintro e w1 ⟨rfl, hb⟩
  have hX := hX.below hb
  have hB := bt_ hB hb
  obtain ⟨c0, c1, c2, c3, c4, c5⟩ := cells6 hX.k2
  have cf := hX.k1.one
  have cs := hX.k3.one
  have ct' := hX.k4.one
  go_wp2_with fail
  refine (zFew_c n _).mono ?_
  rintro e w_ ⟨rfl, rfl⟩
  rw [hd.out]
  go_wp2
  go_ret2
  exact ⟨rfl, hB⟩
set_option maxRecDepth 100000 in
set_option maxHeartbeats 1600000 in
theorem zZero_short (b : Nat) (p : Pl) (h : p.Ok) (n : Int) (hn1 : 0 ≤ n) (hn2 : n ≤ 240) (tv : Value) (tape : List F) (w : World) (ht : Rb w tv tape) (hl : (tape.length : Int) < p.T * n) :
   Calls Try.prog 113 #[fp b, planV p, .int .i64 n, tv] w fun e w' => e = .returned (.tuple #[.slice none 0 0, .int .i64 12]) ∧ Below w.heap.size w w' := by
  have hd := Lib.hid (decide_eq_true (And.intro hn1 hn2))
  have t1 : decide ((tape.length : Int) < p.T * n) = true := decide_eq_true hl
  obtain ⟨At, ct, rfl, hct, hct2⟩ := ht
  have ht : Rb w (.slice At tape.length ct) tape := ⟨At, ct, rfl, hct, hct2⟩
  have hW := box4 w #[fp b] 22 (planC p) 33 #[.int .i64 n] 3 #[.slice At tape.length ct] 40
  have hsz := w.heap.size
  go_enter Try.func113, Try.ntmps113
  go_wp2_with fail
  generalize ((((w.alloc (.cells #[fp b] 22)).alloc (.cells (planC p) 33)).alloc (.cells #[.int .i64 n] 3)).alloc (.cells #[.slice At tape.length ct] 40)) = W0 at *
  obtain ⟨hX, hB, hz⟩ := hW
  obtain ⟨c0, c1, c2, c3, c4, c5⟩ := cells6 hX.k2
  go_wp2_with fail
  refine (right_yes p h _).mono ?_
  rintro e w1 ⟨rfl, hb⟩
  have hX := hX.below hb
  have hB := bt_ hB hb
  obtain ⟨c0, c1, c2, c3, c4, c5⟩ := cells6 hX.k2
  have cf := hX.k1.one
  have cs := hX.k3.one
  have ct' := hX.k4.one
  clear hb
  go_wp2_with fail
  refine (zFew_c n _).mono ?_
  rintro e w_ ⟨rfl, rfl⟩
  rw [hd.out]
  go_wp2_with fail
  go_region_held3 (fun w' => w'.cell? ⟨w.heap.size, 0, none⟩ = some (fp b) ∧ w'.cell? ⟨w.heap.size + 1, 0, none⟩ = some (.int .i64 p.N) ∧ w'.cell? ⟨w.heap.size + 1, 1, none⟩ = some (.int .i64 p.T) ∧ w'.cell? ⟨w.heap.size + 1, 2, none⟩ = some (.int .i64 p.L) ∧ w'.cell? ⟨w.heap.size + 1, 3, none⟩ = some (.int .i64 p.W) ∧ w'.cell? ⟨w.heap.size + 1, 4, none⟩ = some (.int .i64 p.S) ∧ w'.cell? ⟨w.heap.size + 1, 5, none⟩ = some (.int .i64 p.R) ∧ w'.cell? ⟨w.heap.size + 2, 0, none⟩ = some (.int .i64 n) ∧ w'.cell? ⟨w.heap.size + 3, 0, none⟩ = some (.slice At tape.length ct))
    (go_keep)
    (first
      | (go_at_call 115; refine (zCost_ok p h n hn1 hn2 _).mono ?_; rintro e w6 ⟨rfl, h6⟩; (repeat (first | replace h6 := ba h6 | replace h6 := buN h6 | replace h6 := bu h6)); have hX := hX.below h6; have hzz := hX.k4.lt; have hB := bt_ hB h6; obtain ⟨c0, c1, c2, c3, c4, c5⟩ := cells6 hX.k2; have cf := hX.k1.one; have cs := hX.k3.one; have ct' := hX.k4.one)
      | fail)
  go_wp2
  go_ret2
  exact ⟨rfl, hB⟩
set_option maxRecDepth 100000 in
set_option maxHeartbeats 1600000 in
theorem zZero_ok (b : Nat) (p : Pl) (h : p.Ok) (n : Nat) (hn2 : (n : Int) ≤ 240) (tv : Value) (tape : List F) (w : World) (hF : IsField w b) (ht : Rb w tv tape) (hl : p.T * n ≤ (tape.length : Int)) :
   Calls Try.prog 113 #[fp b, planV p, .int .i64 n, tv] w fun e w' => ∃ z, e = .returned (.tuple #[z, .int .i64 0]) ∧ Obb w w' z (((allOf p).map point).map (zsh p.T.toNat (F.rt (secretsAt p)) tape n)) ∧ Below w.heap.size w w' := by
  have hn1 : 0 ≤ (n : Int) := by omega
  have eT : Hid ((p.T.toNat : Int) = p.T ∧ 1 ≤ p.T.toNat ∧ p.T.toNat ≤ 256 ∧ p.T.toNat * n ≤ tape.length) := Lib.hid (by
    have h1 := h.t; have h2 := h.l; have h3 := h.tl; have h4 := h.wn; have h5 := h.nl
    have e0 : (p.T.toNat : Int) = p.T := by omega
    have e := Int.natCast_mul p.T.toNat n
    rw [e0] at e
    exact ⟨e0, by omega, by omega, by omega⟩)
  have hd := Lib.hid (decide_eq_true (And.intro hn1 hn2))
  have t1 : decide ((tape.length : Int) < p.T * n) = false := decide_eq_false (by omega)
  have hsl : (secretsAt p).length ≤ 100000 := by rw [secrets_len]; have := h.nl; have := h.t; have := h.tl; have := h.wn; omega
  obtain ⟨At, ct, rfl, hct, hct2⟩ := ht
  have ht : Rb w (.slice At tape.length ct) tape := ⟨At, ct, rfl, hct, hct2⟩
  have hW := box4 w #[fp b] 22 (planC p) 33 #[.int .i64 n] 3 #[.slice At tape.length ct] 40
  have hsz := w.heap.size
  go_enter Try.func113, Try.ntmps113
  go_wp2_with fail
  generalize ((((w.alloc (.cells #[fp b] 22)).alloc (.cells (planC p) 33)).alloc (.cells #[.int .i64 n] 3)).alloc (.cells #[.slice At tape.length ct] 40)) = W0 at *
  obtain ⟨hX, hB, hz⟩ := hW
  obtain ⟨c0, c1, c2, c3, c4, c5⟩ := cells6 hX.k2
  go_wp2_with fail
  refine (right_yes p h _).mono ?_
  rintro e w1 ⟨rfl, hb⟩
  have hX := hX.below hb
  have hB := bt_ hB hb
  obtain ⟨c0, c1, c2, c3, c4, c5⟩ := cells6 hX.k2
  have cf := hX.k1.one
  have cs := hX.k3.one
  have ct' := hX.k4.one
  clear hb
  go_wp2_with fail
  refine (zFew_c n _).mono ?_
  rintro e w_ ⟨rfl, rfl⟩
  rw [hd.out]
  go_wp2_with fail
  go_region_held3 (fun w' => w'.cell? ⟨w.heap.size, 0, none⟩ = some (fp b) ∧ w'.cell? ⟨w.heap.size + 1, 0, none⟩ = some (.int .i64 p.N) ∧ w'.cell? ⟨w.heap.size + 1, 1, none⟩ = some (.int .i64 p.T) ∧ w'.cell? ⟨w.heap.size + 1, 2, none⟩ = some (.int .i64 p.L) ∧ w'.cell? ⟨w.heap.size + 1, 3, none⟩ = some (.int .i64 p.W) ∧ w'.cell? ⟨w.heap.size + 1, 4, none⟩ = some (.int .i64 p.S) ∧ w'.cell? ⟨w.heap.size + 1, 5, none⟩ = some (.int .i64 p.R) ∧ w'.cell? ⟨w.heap.size + 2, 0, none⟩ = some (.int .i64 n) ∧ w'.cell? ⟨w.heap.size + 3, 0, none⟩ = some (.slice At tape.length ct))
    (go_keep)
    (first
      | (go_at_call 115; refine (zCost_ok p h n hn1 hn2 _).mono ?_; rintro e w6 ⟨rfl, h6⟩; (repeat (first | replace h6 := ba h6 | replace h6 := buN h6 | replace h6 := bu h6)); have hX := hX.below h6; have hzz := hX.k4.lt; have hB := bt_ hB h6; obtain ⟨c0, c1, c2, c3, c4, c5⟩ := cells6 hX.k2; have cf := hX.k1.one; have cs := hX.k3.one; have ct' := hX.k4.one)
      | fail)
  go_upto_region 7 with fail
  go_cut [10] (fun s10 wc => ∃ (g : Nat) (vR : Value), s10 = .pointer (some ⟨g, 0, none⟩) ∧ Blk wc g #[vR] 40 ∧ Ob w wc vR (F.rt (secretsAt p)) ∧ Box4 wc w.heap.size #[fp b] 22 (planC p) 33 #[.int .i64 n] 3 #[.slice At tape.length ct] 40 ∧ Below w.heap.size w wc)
  case first =>
    have hzz := hX.k4.lt
    go_region_held3 (fun w' => w'.cell? ⟨w.heap.size, 0, none⟩ = some (fp b) ∧ w'.cell? ⟨w.heap.size + 1, 0, none⟩ = some (.int .i64 p.N) ∧ w'.cell? ⟨w.heap.size + 1, 1, none⟩ = some (.int .i64 p.T) ∧ w'.cell? ⟨w.heap.size + 1, 2, none⟩ = some (.int .i64 p.L) ∧ w'.cell? ⟨w.heap.size + 1, 3, none⟩ = some (.int .i64 p.W) ∧ w'.cell? ⟨w.heap.size + 1, 4, none⟩ = some (.int .i64 p.S) ∧ w'.cell? ⟨w.heap.size + 1, 5, none⟩ = some (.int .i64 p.R) ∧ w'.cell? ⟨w.heap.size + 2, 0, none⟩ = some (.int .i64 n) ∧ w'.cell? ⟨w.heap.size + 3, 0, none⟩ = some (.slice At tape.length ct))
      (first | go_keep | exact zKeep hX (by omega) _)
      (first
        | (go_at_call 55; refine (secrets_yes p h _).mono ?_; rintro e w6 ⟨vS, rfl, sS, h6⟩; replace sS := sS.rk; (first | have hN := new_blkd h6 | have hN := new_blkN h6 | have hN := new_blk h6 | skip); (repeat (first | replace h6 := ba h6 | replace h6 := buN h6 | replace h6 := bu h6)); have hX := hX.below h6; have hzz := hX.k4.lt; have hB := bt_ hB h6; obtain ⟨c0, c1, c2, c3, c4, c5⟩ := cells6 hX.k2; have cf := hX.k1.one; have cs := hX.k3.one; have ct' := hX.k4.one; (try have cn := hN.one); (try have fn := blk_frozen hN 0))
        | (go_at_call 80; refine (pRoot_c b _ _ _ (by first | exact hF.below hB | exact (hF.below hB).alloc _ | exact (hF.below hB).drew.alloc _ | exact (hF.below hB).drew) (by first | exact sS | exact sS.alloc _ | exact sS.drew | exact sS.drew.alloc _) hsl).mono ?_; rintro e w6 ⟨vR, rfl, sR, h6⟩; obtain ⟨A6, c6, rfl⟩ := rk_form sR.rk; replace sR := sR.lower (w0 := w) (by first | exact hB | exact below_drew hB | exact below_alloc hB _ | exact below_alloc (below_drew hB) _); (first | have hN := new_blkd h6 | have hN := new_blkN h6 | have hN := new_blk h6 | skip); (repeat (first | replace h6 := ba h6 | replace h6 := buN h6 | replace h6 := bu h6)); have hX := hX.below h6; have hzz := hX.k4.lt; have hB := bt_ hB h6; obtain ⟨c0, c1, c2, c3, c4, c5⟩ := cells6 hX.k2; have cf := hX.k1.one; have cs := hX.k3.one; have ct' := hX.k4.one; (first | (have hN := hN.below h6) | skip); (try have cn := hN.one); (try have fn := blk_frozen hN 0))
        | fail)
    all_goals
      go_wp2_with fail
      go_meet
      first
        | exact ⟨_, _, rfl, hN.put _, Rk.far sR (Kd.R_ne sR hN (by decide)) 0 _, hX.far (by omega) 0 _, below_set hB (by omega)⟩
        | exact ⟨_, _, rfl, Blk.new _ _ _, Own.alloc sR _, hX.alloc _, below_alloc hB _⟩
  case rest =>
    obtain ⟨g, vR, rfl, hG, sR, hX, hB⟩ := hcut
    clear c0 c1 c2 c3 c4 c5 cf cs ct'
    obtain ⟨c0, c1, c2, c3, c4, c5⟩ := cells6 hX.k2
    obtain ⟨T, L, N, eT9, eL, eN, a1, a2, a3, a4⟩ := Pl.Ok.nats h
    have hN1 : 0 ≤ p.N := by omega
    have hN2 : p.N ≤ 256 := by omega
    have e3 : Hid (((allOf p).map point).length = N) := Lib.hid (by rw [List.length_map, all_len]; omega)
    have e4 : Hid ((allOf p).length < 1000000) := Lib.hid (by rw [all_len]; omega)
    clear eT9
    replace eL := Lib.hid eL
    replace eN := Lib.hid eN
    have hBx := Below.refl wc.heap.size wc
    go_wp2_with ((with_reducible refine gate_dst (N := 37) rfl ?_); refine mk_cap kbb rfl 66 40 _ _ rfl .i64 _ rfl rfl Try.underlying66 (.slice none 0 0) 24 infoR (by decide) ?h0 ?hl hBx ?_; (case h0 => omega); (case hl => omega); intro v1 w1 ho hb hg; (have hX := hX.below hb; obtain ⟨c0, c1, c2, c3, c4, c5⟩ := cells6 hX.k2))
    have hO := ho
    clear ho hg
    go_wp2_with fail
    refine (all_yes p h _).mono ?_
    rintro e w2 ⟨v2, rfl, oA, h2⟩
    have hO := hO.below h2
    have hb := bt_ hb h2
    go_wp2_with fail
    refine (points_c _ _ _ oA.rk e4.out).mono ?_
    rintro e w3 ⟨v3, rfl, oP, h3⟩
    have hO := hO.below h3
    have oP := oP.lower (bt_ hb (Below.refl _ _))
    have hb := bt_ hb h3
    clear h2 h3 oA hX c0 c1 c2 c3 c4 c5
    obtain ⟨A3, n3, rfl⟩ := rk_form oP.rk
    rw [e3.out] at oP ⊢
    have hXx := Lib.hid hX
    go_wp2_with fail
    go_loopw [12, 14, 42] (fun s _ i wr => ∃ k : Nat, k ≤ N ∧ i = .int .i64 k ∧ Obb wc wr s ((((allOf p).map point).take k).map (zsh p.T.toNat (F.rt (secretsAt p)) tape n)) ∧ Ob wc wr (.slice A3 N n3) ((allOf p).map point) ∧ Below wc.heap.size wc wr) (fun _ _ i _ => N - (intOf i).toNat)
    case atStart => exact ⟨0, by omega, rfl, hO, oP, hb⟩
    case round =>
      clear hO oP hb
      obtain ⟨k, hk, rfl, hO, oP, hb⟩ := hrel
      by_cases hlt : k < N
      · obtain ⟨ad, rfl, c1⟩ := kb_at (rk_C oP.rk) k (by rw [e3.out]; exact hlt)
        have HS := Lib.hid (congrArg (List.map (zsh p.T.toNat (F.rt (secretsAt p)) tape n)) (take_snoc' ((allOf p).map point) k 0 (by rw [e3.out]; exact hlt)))
        generalize ((allOf p).map point).getD k 0 = x at *
        have hX := hXx.out.below hb
        have hE : ZEnv wr w.heap.size g (w.heap.size + 1 + 1) (w.heap.size + 1 + 1 + 1) (w.heap.size + 1) b p.T.toNat n vR (.slice At tape.length ct) (F.rt (secretsAt p)) tape :=
          ⟨hX.k1.one, (hG.below hb).one, hX.k3.one, hX.k4.one, by rw [eT.out.1]; exact hX.k2.cell 1 _ rfl, (hF.below hB).below hb, (sR.below hb).rk, (ht.below hB).below hb⟩
        have hE := Lib.hid hE
        clear hX
        go_wp2_with fail
        refine (zClos _ _ _ _ _ b p.T.toNat n vR _ (F.rt (secretsAt p)) tape x wr hE.out eT.out.2.1 eT.out.2.2.1 (by omega) eT.out.2.2.2).mono ?_
        rintro e w5 ⟨z, rfl, oz, h5⟩
        have oz := oz.lower hb
        have hO := hO.below h5
        have oP := oP.below h5
        have hb := bt_ hb h5
        have hlen : Hid ((((allOf p).map point).take k).length + 1 ≤ 5000000000) := Lib.hid (by rw [List.length_take]; omega)
        clear h5 hE c1
        generalize hrow : zsh p.T.toNat (F.rt (secretsAt p)) tape n x = row at *
        replace hrow := Lib.hid hrow
        obtain ⟨A6, c6, rfl⟩ := rk_form oz.rk
        go_wp2_with (at_builtin; refine app_row rfl (.tmp 46) (.tmp 50) 66 40 rfl Try.underlying66 infoR (by decide) _ _ _ _ rfl rfl hO oz hb ?hl ?_; (case hl => (first | (simp; omega) | omega)); intro v1 w1 ho hb hg)
        exact ⟨⟨k + 1, by omega, by go_num, by rw [HS.out, List.map_append]; show Own _ _ _ _ _ (_ ++ [zsh p.T.toNat (F.rt (secretsAt p)) tape n x]); rw [hrow.out]; exact ho, Ob.grown oP hO hg, hb⟩, by simp [intOf]; try omega⟩
      · obtain rfl : k = N := by omega
        rw [List.take_of_length_le (by rw [e3.out]; omega)] at hO
        go_wp2
        go_ret2
        exact ⟨_, rfl, hO.lower hB, bt_ hB hb⟩
/-! ### Add -/
set_option maxRecDepth 100000 in
set_option maxHeartbeats 1600000 in
theorem zAdd_c (v : Value) (l : List (List F)) (w : World) (hv : Rbb w v l) (b1 : l.length ≤ 1000) (b2 : ∀ r ∈ l, r.length ≤ 1000000) :
   Calls Try.prog 118 #[v] w fun e w' => ∃ z, e = .returned z ∧ Ob w w' z (F.addAll l) ∧ Below w.heap.size w w' := by
  cases l with
  | nil =>
    obtain ⟨A, c, rfl, hc, hr⟩ := hv
    go_enter Try.func118, Try.ntmps118
    go_wp2
    go_ret
    exact ⟨_, rfl, Own.nil _ _ _ _, Below.refl _ _⟩
  | cons a rest =>
    obtain ⟨A, c, rfl, hc, hr⟩ := hv
    obtain ⟨ad, u0, rfl, d0, hu0⟩ := kbb_at hr 0 (by simp)
    have hL := lit_own (w0 := w) (W := w) [] #[] rfl 0 rfl (by decide) (Nat.le_refl _)
    have hB1 := below_alloc (Below.refl w.heap.size w) (.cells #[] 5)
    replace hu0 : Rb w u0 a := hu0
    have hu0' := hu0.alloc (.cells #[] 5)
    obtain ⟨A0, c0, rfl⟩ := rk_form hu0
    have d0 : w.cell? ad = some (.slice A0 a.length c0) := by
      have h9 : ad.add 0 = ad := by unfold Addr.add; split <;> simp_all
      rw [h9] at d0
      exact d0
    have d1 := pw_cell_below hB1 d0
    have ha2 : a.length ≤ 1000000 := b2 a (List.mem_cons_self ..)
    have b3 := Lib.hid (fun r hr => b2 r (List.mem_cons_of_mem a hr))
    have b4 : rest.length ≤ 1000 := by simp at b1; omega
    clear b1 b2
    have hv0 : Rbb w (.slice (some ad) (rest.length + 1) c) (a :: rest) := ⟨some ad, c, rfl, hc, hr⟩
    have hc' : rest.length + 1 ≤ c := hc
    clear hr hc
    have t0 : ((rest.length : Int) + 1 == 0) = false := beq_eq_false_iff_ne.2 (by omega)
    by_cases hc1 : c = 1
    · subst hc1
      have hr0 : rest = [] := List.length_eq_zero_iff.1 (by omega)
      subst hr0
      have t0 : (((0 : Nat) : Int) + 1 == 0) = false := rfl
      by_cases ha : 0 < a.length
      · go_enter Try.func118, Try.ntmps118
        go_wp2_with (first | (at_builtin; refine wpList_app_b (w0 := w) rfl (.tmp 10) (.tmp 13) rfl _ [] _ a rfl rfl hL hu0' ha hB1 (by simp; omega) ?_; intro v1 w1 ho hb hg; rw [List.nil_append] at ho; have d2 := pw_cell_below hb d0) | fail)
        go_loopw [3, 5, 6, 18] (fun s _ _ i wr => i = .int .i64 0 ∧ Ob w wr s a ∧ Below w.heap.size w wr) (fun _ _ _ _ _ => 0)
        case atStart => exact ⟨rfl, ho, hb⟩
        case round =>
          clear ho hb
          obtain ⟨rfl, hO, hB⟩ := hrel
          go_wp2
          go_ret
          exact ⟨_, rfl, hO, hB⟩
      · have ha3 : a = [] := List.length_eq_zero_iff.1 (by omega)
        subst ha3
        have p1 : ∀ w : World, Sem.run Try.prog (pure (#[] : Array Value)) w = .ok #[] w := fun _ => rfl
        have p2 : ∀ (w : World) (a : Addr), Sem.run Try.prog (storeCells a []) w = .ok () w := fun _ _ => rfl
        have ho := hL
        have hb := hB1
        cases A0
        · go_enter Try.func118, Try.ntmps118
          go_wp2_with (first | (at_builtin; refine wpList_app_b (w0 := w) rfl (.tmp 10) (.tmp 13) rfl _ [] _ a rfl rfl hL hu0' ha hB1 (by simp; omega) ?_; intro v1 w1 ho hb hg; rw [List.nil_append] at ho; have d2 := pw_cell_below hb d0) | fail)
          clear p1 p2
          go_loopw [3, 5, 6, 18] (fun s _ _ i wr => i = .int .i64 0 ∧ Ob w wr s ([] : List F) ∧ Below w.heap.size w wr) (fun _ _ _ _ _ => 0)
          case atStart => exact ⟨rfl, ho, hb⟩
          case round =>
            clear ho hb
            obtain ⟨rfl, hO, hB⟩ := hrel
            go_wp2
            go_ret
            exact ⟨_, rfl, hO, hB⟩
        · go_enter Try.func118, Try.ntmps118
          go_wp2_with (first | (at_builtin; refine wpList_app_b (w0 := w) rfl (.tmp 10) (.tmp 13) rfl _ [] _ a rfl rfl hL hu0' ha hB1 (by simp; omega) ?_; intro v1 w1 ho hb hg; rw [List.nil_append] at ho; have d2 := pw_cell_below hb d0) | fail)
          clear p1 p2
          go_loopw [3, 5, 6, 18] (fun s _ _ i wr => i = .int .i64 0 ∧ Ob w wr s ([] : List F) ∧ Below w.heap.size w wr) (fun _ _ _ _ _ => 0)
          case atStart => exact ⟨rfl, ho, hb⟩
          case round =>
            clear ho hb
            obtain ⟨rfl, hO, hB⟩ := hrel
            go_wp2
            go_ret
            exact ⟨_, rfl, hO, hB⟩
    · have hv1 : Rbb w (.slice (some (ad.add 1)) rest.length (c - 1)) rest := rk_drop hv0 (m := 1) (by simp) rfl (by omega)
      by_cases ha : 0 < a.length
      · go_enter Try.func118, Try.ntmps118
        go_wp2_with (first | (at_builtin; refine wpList_app_b (w0 := w) rfl (.tmp 10) (.tmp 13) rfl _ [] _ a rfl rfl hL hu0' ha hB1 (by simp; omega) ?_; intro v1 w1 ho hb hg; rw [List.nil_append] at ho; have d2 := pw_cell_below hb d0) | fail)
        replace hv1 : Rbb w (.slice (some ⟨ad.block, ad.off + 1, none⟩) rest.length (c - 1)) rest := hv1
        generalize (⟨ad.block, ad.off + 1, none⟩ : Addr) = ad1 at *
        go_loopw [3, 5, 6, 18] (fun s _ _ i wr => ∃ k : Nat, k ≤ rest.length ∧ i = .int .i64 k ∧ Ob w wr s ((rest.take k).foldl F.zadd a) ∧ Below w.heap.size w wr) (fun _ _ _ i _ => rest.length - (intOf i).toNat)
        case atStart => exact ⟨0, by omega, rfl, by rw [List.take_zero]; exact ho, hb⟩
        case round =>
          clear ho hb
          obtain ⟨k, hk, rfl, hO, hB⟩ := hrel
          by_cases hlt : k < rest.length
          · obtain ⟨ad2, u, e0, c1, hu⟩ := kbb_at (rk_C hv1) k hlt
            injection e0 with e0
            subst e0
            have c1 := pw_cell_below hB c1
            have HS : Hid ((rest.take (k + 1)).foldl F.zadd a = F.zadd ((rest.take k).foldl F.zadd a) (rest.getD k [])) := Lib.hid (by rw [take_snoc' rest k [] hlt, List.foldl_append]; rfl)
            have hy : (rest.getD k []).length ≤ 1000000 := b3.out _ (by rw [List.getD_eq_getElem?_getD, List.getElem?_eq_getElem hlt]; exact List.getElem_mem hlt)
            generalize (rest.take k).foldl F.zadd a = X at *
            generalize rest.getD k [] = y at *
            obtain ⟨A5, c5, rfl⟩ := rk_form hu
            obtain ⟨A6, c6, rfl⟩ := rk_form hO.rk
            have hXl := kb_len (rk_C hO.rk)
            obtain ⟨_, hX6⟩ := ob_slice hO
            by_cases hm : y.length < X.length
            · have hm' : (y.length : Int) < (X.length : Int) := by omega
              have hOt := Ob.take hO (m := y.length) (by omega)
              have hql : (X.take y.length).length = y.length := by rw [List.length_take]; omega
              have hfin : Hid (F.zaddTo (X.take y.length) y y.length = F.zadd X y) := Lib.hid (by
                have h1 := F.zaddTo_all (X.take y.length) y (by rw [hql]; omega)
                rw [hql] at h1
                have h2 := F.zadd_take X y
                rw [show min X.length y.length = y.length from by omega] at h2
                rw [h1, h2])
              have hq6 : ((y.length : Nat) : Int) ≤ (c6 : Int) := by omega
              have hq7 : (0 : Int) ≤ ((y.length : Nat) : Int) := by omega
              rw [← F.zaddTo_0 (X.take y.length) y] at hOt
              have hset := fun i (hi : i < y.length) => Lib.hid (And.intro (F.zaddTo_at (X.take y.length) y i (by rw [hql]; exact hi) (by omega)) (And.intro (F.zaddTo_set (X.take y.length) y i (by rw [hql]; exact hi) (by omega)) (F.zaddTo_len (X.take y.length) y i (by rw [hql]; omega) (by omega))))
              replace hset := Lib.hid hset
              replace hql := Lib.hid hql
              generalize X.take y.length = X2 at *
              clear hO
              go_wp2_with fail
              go_loopw [6, 31] (fun _ j wr2 => ∃ i : Nat, i ≤ y.length ∧ j = .int .i64 i ∧ Ob w wr2 (.slice A6 y.length c6) (F.zaddTo X2 y i) ∧ Below w.heap.size w wr2) (fun _ j _ => y.length - (intOf j).toNat)
              case atStart => exact ⟨0, by omega, rfl, hOt, hB⟩
              case round =>
                clear hOt hB c1
                obtain ⟨i, hi, rfl, hO, hB⟩ := hrel
                by_cases hlt2 : i < y.length
                · obtain ⟨e1, e2, e3⟩ := (hset.out i hlt2).out
                  obtain ⟨g, cap, ef, hg1, hg2⟩ := hO.form (by rw [e3, hql.out]; omega)
                  injection ef with ef1 ef2 ef3
                  subst ef1
                  obtain ⟨c2, f2⟩ := hO.at i (by rw [e3, hql.out]; exact hlt2)
                  obtain ⟨ady, rfl, c3⟩ := kb_at (rk_C (hu.below hB)) i (by omega)
                  rw [e1] at c2
                  have hlt3 : (i : Int) < (y.length : Int) := by omega
                  have hlt4 : (i : Int) < (y.length : Int) := by omega
                  have hnx := Lib.hid e2
                  clear e1 e2 e3 ef2 ef3
                  generalize X2.getD i 0 = x at *
                  generalize y.getD i 0 = z at *
                  go_wp2_with fail
                  go_region_law (first
                      | (go_simp; go_at_call 39; refine (add_c x z _ _ _ rfl rfl).mono ?_; rintro e w7 ⟨rfl, rfl⟩)
                      | fail)
                  all_goals go_wp2
                  all_goals
                    have hB1 := below_drew hB
                    obtain ⟨hO2, hgr⟩ := Ob.set (hO.below (below_drew (Below.refl _ _))) i (x + z)
                    rw [hnx.out] at hO2
                    exact ⟨⟨i + 1, by omega, by go_num, hO2, hB1.grown hgr hB1.size (fun k hk => by injection hk with hk; omega)⟩, by simp [intOf]; try omega⟩
                · obtain rfl : i = y.length := by omega
                  rw [hfin.out] at hO
                  go_wp2
                  exact ⟨⟨k + 1, by omega, by go_num, by rw [HS.out]; exact hO, hB⟩, by simp [intOf]; try omega⟩
            · have hm' : decide ((y.length : Int) < (X.length : Int)) = false := decide_eq_false (by omega)
              have hOt := Ob.take hO (m := X.length) (by omega)
              have hql : (X.take X.length).length = X.length := by rw [List.length_take]; omega
              have hfin : Hid (F.zaddTo (X.take X.length) y X.length = F.zadd X y) := Lib.hid (by
                have h1 := F.zaddTo_all (X.take X.length) y (by rw [hql]; omega)
                rw [hql] at h1
                have h2 := F.zadd_take X y
                rw [show min X.length y.length = X.length from by omega] at h2
                rw [h1, h2])
              have hq6 : ((X.length : Nat) : Int) ≤ (c6 : Int) := by omega
              have hq7 : (0 : Int) ≤ ((X.length : Nat) : Int) := by omega
              rw [← F.zaddTo_0 (X.take X.length) y] at hOt
              have hset := fun i (hi : i < X.length) => Lib.hid (And.intro (F.zaddTo_at (X.take X.length) y i (by rw [hql]; exact hi) (by omega)) (And.intro (F.zaddTo_set (X.take X.length) y i (by rw [hql]; exact hi) (by omega)) (F.zaddTo_len (X.take X.length) y i (by rw [hql]; omega) (by omega))))
              replace hset := Lib.hid hset
              replace hql := Lib.hid hql
              generalize X.take X.length = X2 at *
              clear hO
              go_wp2_with fail
              go_loopw [6, 31] (fun _ j wr2 => ∃ i : Nat, i ≤ X.length ∧ j = .int .i64 i ∧ Ob w wr2 (.slice A6 X.length c6) (F.zaddTo X2 y i) ∧ Below w.heap.size w wr2) (fun _ j _ => X.length - (intOf j).toNat)
              case atStart => exact ⟨0, by omega, rfl, hOt, hB⟩
              case round =>
                clear hOt hB c1
                obtain ⟨i, hi, rfl, hO, hB⟩ := hrel
                by_cases hlt2 : i < X.length
                · obtain ⟨e1, e2, e3⟩ := (hset.out i hlt2).out
                  obtain ⟨g, cap, ef, hg1, hg2⟩ := hO.form (by rw [e3, hql.out]; omega)
                  injection ef with ef1 ef2 ef3
                  subst ef1
                  obtain ⟨c2, f2⟩ := hO.at i (by rw [e3, hql.out]; exact hlt2)
                  obtain ⟨ady, rfl, c3⟩ := kb_at (rk_C (hu.below hB)) i (by omega)
                  rw [e1] at c2
                  have hlt3 : (i : Int) < (X.length : Int) := by omega
                  have hlt4 : (i : Int) < (y.length : Int) := by omega
                  have hnx := Lib.hid e2
                  clear e1 e2 e3 ef2 ef3
                  generalize X2.getD i 0 = x at *
                  generalize y.getD i 0 = z at *
                  go_wp2_with fail
                  go_region_law (first
                      | (go_simp; go_at_call 39; refine (add_c x z _ _ _ rfl rfl).mono ?_; rintro e w7 ⟨rfl, rfl⟩)
                      | fail)
                  all_goals go_wp2
                  all_goals
                    have hB1 := below_drew hB
                    obtain ⟨hO2, hgr⟩ := Ob.set (hO.below (below_drew (Below.refl _ _))) i (x + z)
                    rw [hnx.out] at hO2
                    exact ⟨⟨i + 1, by omega, by go_num, hO2, hB1.grown hgr hB1.size (fun k hk => by injection hk with hk; omega)⟩, by simp [intOf]; try omega⟩
                · obtain rfl : i = X.length := by omega
                  rw [hfin.out] at hO
                  go_wp2
                  exact ⟨⟨k + 1, by omega, by go_num, by rw [HS.out]; exact hO, hB⟩, by simp [intOf]; try omega⟩
          · obtain rfl : k = rest.length := by omega
            rw [List.take_length] at hO
            go_wp2
            go_ret
            exact ⟨_, rfl, hO, hB⟩
      · have ha3 : a = [] := List.length_eq_zero_iff.1 (by omega)
        subst ha3
        have p1 : ∀ w : World, Sem.run Try.prog (pure (#[] : Array Value)) w = .ok #[] w := fun _ => rfl
        have p2 : ∀ (w : World) (a : Addr), Sem.run Try.prog (storeCells a []) w = .ok () w := fun _ _ => rfl
        have ho := hL
        have hb := hB1
        cases A0
        · go_enter Try.func118, Try.ntmps118
          go_wp2_with (first | (at_builtin; refine wpList_app_b (w0 := w) rfl (.tmp 10) (.tmp 13) rfl _ [] _ a rfl rfl hL hu0' ha hB1 (by simp; omega) ?_; intro v1 w1 ho hb hg; rw [List.nil_append] at ho; have d2 := pw_cell_below hb d0) | fail)
          clear p1 p2
          replace hv1 : Rbb w (.slice (some ⟨ad.block, ad.off + 1, none⟩) rest.length (c - 1)) rest := hv1
          generalize (⟨ad.block, ad.off + 1, none⟩ : Addr) = ad1 at *
          go_loopw [3, 5, 6, 18] (fun s _ _ i wr => ∃ k : Nat, k ≤ rest.length ∧ i = .int .i64 k ∧ Ob w wr s ((rest.take k).foldl F.zadd ([] : List F)) ∧ Below w.heap.size w wr) (fun _ _ _ i _ => rest.length - (intOf i).toNat)
          case atStart => exact ⟨0, by omega, rfl, by rw [List.take_zero]; exact ho, hb⟩
          case round =>
            clear ho hb
            obtain ⟨k, hk, rfl, hO, hB⟩ := hrel
            by_cases hlt : k < rest.length
            · obtain ⟨ad2, u, e0, c1, hu⟩ := kbb_at (rk_C hv1) k hlt
              injection e0 with e0
              subst e0
              have c1 := pw_cell_below hB c1
              have HS : Hid ((rest.take (k + 1)).foldl F.zadd ([] : List F) = F.zadd ((rest.take k).foldl F.zadd ([] : List F)) (rest.getD k [])) := Lib.hid (by rw [take_snoc' rest k [] hlt, List.foldl_append]; rfl)
              have hy : (rest.getD k []).length ≤ 1000000 := b3.out _ (by rw [List.getD_eq_getElem?_getD, List.getElem?_eq_getElem hlt]; exact List.getElem_mem hlt)
              generalize (rest.take k).foldl F.zadd ([] : List F) = X at *
              generalize rest.getD k [] = y at *
              obtain ⟨A5, c5, rfl⟩ := rk_form hu
              obtain ⟨A6, c6, rfl⟩ := rk_form hO.rk
              have hXl := kb_len (rk_C hO.rk)
              obtain ⟨_, hX6⟩ := ob_slice hO
              by_cases hm : y.length < X.length
              · have hm' : (y.length : Int) < (X.length : Int) := by omega
                have hOt := Ob.take hO (m := y.length) (by omega)
                have hql : (X.take y.length).length = y.length := by rw [List.length_take]; omega
                have hfin : Hid (F.zaddTo (X.take y.length) y y.length = F.zadd X y) := Lib.hid (by
                  have h1 := F.zaddTo_all (X.take y.length) y (by rw [hql]; omega)
                  rw [hql] at h1
                  have h2 := F.zadd_take X y
                  rw [show min X.length y.length = y.length from by omega] at h2
                  rw [h1, h2])
                have hq6 : ((y.length : Nat) : Int) ≤ (c6 : Int) := by omega
                have hq7 : (0 : Int) ≤ ((y.length : Nat) : Int) := by omega
                rw [← F.zaddTo_0 (X.take y.length) y] at hOt
                have hset := fun i (hi : i < y.length) => Lib.hid (And.intro (F.zaddTo_at (X.take y.length) y i (by rw [hql]; exact hi) (by omega)) (And.intro (F.zaddTo_set (X.take y.length) y i (by rw [hql]; exact hi) (by omega)) (F.zaddTo_len (X.take y.length) y i (by rw [hql]; omega) (by omega))))
                replace hset := Lib.hid hset
                replace hql := Lib.hid hql
                generalize X.take y.length = X2 at *
                clear hO
                go_wp2_with fail
                go_loopw [6, 31] (fun _ j wr2 => ∃ i : Nat, i ≤ y.length ∧ j = .int .i64 i ∧ Ob w wr2 (.slice A6 y.length c6) (F.zaddTo X2 y i) ∧ Below w.heap.size w wr2) (fun _ j _ => y.length - (intOf j).toNat)
                case atStart => exact ⟨0, by omega, rfl, hOt, hB⟩
                case round =>
                  clear hOt hB c1
                  obtain ⟨i, hi, rfl, hO, hB⟩ := hrel
                  by_cases hlt2 : i < y.length
                  · obtain ⟨e1, e2, e3⟩ := (hset.out i hlt2).out
                    obtain ⟨g, cap, ef, hg1, hg2⟩ := hO.form (by rw [e3, hql.out]; omega)
                    injection ef with ef1 ef2 ef3
                    subst ef1
                    obtain ⟨c2, f2⟩ := hO.at i (by rw [e3, hql.out]; exact hlt2)
                    obtain ⟨ady, rfl, c3⟩ := kb_at (rk_C (hu.below hB)) i (by omega)
                    rw [e1] at c2
                    have hlt3 : (i : Int) < (y.length : Int) := by omega
                    have hlt4 : (i : Int) < (y.length : Int) := by omega
                    have hnx := Lib.hid e2
                    clear e1 e2 e3 ef2 ef3
                    generalize X2.getD i 0 = x at *
                    generalize y.getD i 0 = z at *
                    go_wp2_with fail
                    go_region_law (first
                        | (go_simp; go_at_call 39; refine (add_c x z _ _ _ rfl rfl).mono ?_; rintro e w7 ⟨rfl, rfl⟩)
                        | fail)
                    all_goals go_wp2
                    all_goals
                      have hB1 := below_drew hB
                      obtain ⟨hO2, hgr⟩ := Ob.set (hO.below (below_drew (Below.refl _ _))) i (x + z)
                      rw [hnx.out] at hO2
                      exact ⟨⟨i + 1, by omega, by go_num, hO2, hB1.grown hgr hB1.size (fun k hk => by injection hk with hk; omega)⟩, by simp [intOf]; try omega⟩
                  · obtain rfl : i = y.length := by omega
                    rw [hfin.out] at hO
                    go_wp2
                    exact ⟨⟨k + 1, by omega, by go_num, by rw [HS.out]; exact hO, hB⟩, by simp [intOf]; try omega⟩
              · have hm' : decide ((y.length : Int) < (X.length : Int)) = false := decide_eq_false (by omega)
                have hOt := Ob.take hO (m := X.length) (by omega)
                have hql : (X.take X.length).length = X.length := by rw [List.length_take]; omega
                have hfin : Hid (F.zaddTo (X.take X.length) y X.length = F.zadd X y) := Lib.hid (by
                  have h1 := F.zaddTo_all (X.take X.length) y (by rw [hql]; omega)
                  rw [hql] at h1
                  have h2 := F.zadd_take X y
                  rw [show min X.length y.length = X.length from by omega] at h2
                  rw [h1, h2])
                have hq6 : ((X.length : Nat) : Int) ≤ (c6 : Int) := by omega
                have hq7 : (0 : Int) ≤ ((X.length : Nat) : Int) := by omega
                rw [← F.zaddTo_0 (X.take X.length) y] at hOt
                have hset := fun i (hi : i < X.length) => Lib.hid (And.intro (F.zaddTo_at (X.take X.length) y i (by rw [hql]; exact hi) (by omega)) (And.intro (F.zaddTo_set (X.take X.length) y i (by rw [hql]; exact hi) (by omega)) (F.zaddTo_len (X.take X.length) y i (by rw [hql]; omega) (by omega))))
                replace hset := Lib.hid hset
                replace hql := Lib.hid hql
                generalize X.take X.length = X2 at *
                clear hO
                go_wp2_with fail
                go_loopw [6, 31] (fun _ j wr2 => ∃ i : Nat, i ≤ X.length ∧ j = .int .i64 i ∧ Ob w wr2 (.slice A6 X.length c6) (F.zaddTo X2 y i) ∧ Below w.heap.size w wr2) (fun _ j _ => X.length - (intOf j).toNat)
                case atStart => exact ⟨0, by omega, rfl, hOt, hB⟩
                case round =>
                  clear hOt hB c1
                  obtain ⟨i, hi, rfl, hO, hB⟩ := hrel
                  by_cases hlt2 : i < X.length
                  · obtain ⟨e1, e2, e3⟩ := (hset.out i hlt2).out
                    obtain ⟨g, cap, ef, hg1, hg2⟩ := hO.form (by rw [e3, hql.out]; omega)
                    injection ef with ef1 ef2 ef3
                    subst ef1
                    obtain ⟨c2, f2⟩ := hO.at i (by rw [e3, hql.out]; exact hlt2)
                    obtain ⟨ady, rfl, c3⟩ := kb_at (rk_C (hu.below hB)) i (by omega)
                    rw [e1] at c2
                    have hlt3 : (i : Int) < (X.length : Int) := by omega
                    have hlt4 : (i : Int) < (y.length : Int) := by omega
                    have hnx := Lib.hid e2
                    clear e1 e2 e3 ef2 ef3
                    generalize X2.getD i 0 = x at *
                    generalize y.getD i 0 = z at *
                    go_wp2_with fail
                    go_region_law (first
                        | (go_simp; go_at_call 39; refine (add_c x z _ _ _ rfl rfl).mono ?_; rintro e w7 ⟨rfl, rfl⟩)
                        | fail)
                    all_goals go_wp2
                    all_goals
                      have hB1 := below_drew hB
                      obtain ⟨hO2, hgr⟩ := Ob.set (hO.below (below_drew (Below.refl _ _))) i (x + z)
                      rw [hnx.out] at hO2
                      exact ⟨⟨i + 1, by omega, by go_num, hO2, hB1.grown hgr hB1.size (fun k hk => by injection hk with hk; omega)⟩, by simp [intOf]; try omega⟩
                  · obtain rfl : i = X.length := by omega
                    rw [hfin.out] at hO
                    go_wp2
                    exact ⟨⟨k + 1, by omega, by go_num, by rw [HS.out]; exact hO, hB⟩, by simp [intOf]; try omega⟩
            · obtain rfl : k = rest.length := by omega
              rw [List.take_length] at hO
              go_wp2
              go_ret
              exact ⟨_, rfl, hO, hB⟩
        · go_enter Try.func118, Try.ntmps118
          go_wp2_with (first | (at_builtin; refine wpList_app_b (w0 := w) rfl (.tmp 10) (.tmp 13) rfl _ [] _ a rfl rfl hL hu0' ha hB1 (by simp; omega) ?_; intro v1 w1 ho hb hg; rw [List.nil_append] at ho; have d2 := pw_cell_below hb d0) | fail)
          clear p1 p2
          replace hv1 : Rbb w (.slice (some ⟨ad.block, ad.off + 1, none⟩) rest.length (c - 1)) rest := hv1
          generalize (⟨ad.block, ad.off + 1, none⟩ : Addr) = ad1 at *
          go_loopw [3, 5, 6, 18] (fun s _ _ i wr => ∃ k : Nat, k ≤ rest.length ∧ i = .int .i64 k ∧ Ob w wr s ((rest.take k).foldl F.zadd ([] : List F)) ∧ Below w.heap.size w wr) (fun _ _ _ i _ => rest.length - (intOf i).toNat)
          case atStart => exact ⟨0, by omega, rfl, by rw [List.take_zero]; exact ho, hb⟩
          case round =>
            clear ho hb
            obtain ⟨k, hk, rfl, hO, hB⟩ := hrel
            by_cases hlt : k < rest.length
            · obtain ⟨ad2, u, e0, c1, hu⟩ := kbb_at (rk_C hv1) k hlt
              injection e0 with e0
              subst e0
              have c1 := pw_cell_below hB c1
              have HS : Hid ((rest.take (k + 1)).foldl F.zadd ([] : List F) = F.zadd ((rest.take k).foldl F.zadd ([] : List F)) (rest.getD k [])) := Lib.hid (by rw [take_snoc' rest k [] hlt, List.foldl_append]; rfl)
              have hy : (rest.getD k []).length ≤ 1000000 := b3.out _ (by rw [List.getD_eq_getElem?_getD, List.getElem?_eq_getElem hlt]; exact List.getElem_mem hlt)
              generalize (rest.take k).foldl F.zadd ([] : List F) = X at *
              generalize rest.getD k [] = y at *
              obtain ⟨A5, c5, rfl⟩ := rk_form hu
              obtain ⟨A6, c6, rfl⟩ := rk_form hO.rk
              have hXl := kb_len (rk_C hO.rk)
              obtain ⟨_, hX6⟩ := ob_slice hO
              by_cases hm : y.length < X.length
              · have hm' : (y.length : Int) < (X.length : Int) := by omega
                have hOt := Ob.take hO (m := y.length) (by omega)
                have hql : (X.take y.length).length = y.length := by rw [List.length_take]; omega
                have hfin : Hid (F.zaddTo (X.take y.length) y y.length = F.zadd X y) := Lib.hid (by
                  have h1 := F.zaddTo_all (X.take y.length) y (by rw [hql]; omega)
                  rw [hql] at h1
                  have h2 := F.zadd_take X y
                  rw [show min X.length y.length = y.length from by omega] at h2
                  rw [h1, h2])
                have hq6 : ((y.length : Nat) : Int) ≤ (c6 : Int) := by omega
                have hq7 : (0 : Int) ≤ ((y.length : Nat) : Int) := by omega
                rw [← F.zaddTo_0 (X.take y.length) y] at hOt
                have hset := fun i (hi : i < y.length) => Lib.hid (And.intro (F.zaddTo_at (X.take y.length) y i (by rw [hql]; exact hi) (by omega)) (And.intro (F.zaddTo_set (X.take y.length) y i (by rw [hql]; exact hi) (by omega)) (F.zaddTo_len (X.take y.length) y i (by rw [hql]; omega) (by omega))))
                replace hset := Lib.hid hset
                replace hql := Lib.hid hql
                generalize X.take y.length = X2 at *
                clear hO
                go_wp2_with fail
                go_loopw [6, 31] (fun _ j wr2 => ∃ i : Nat, i ≤ y.length ∧ j = .int .i64 i ∧ Ob w wr2 (.slice A6 y.length c6) (F.zaddTo X2 y i) ∧ Below w.heap.size w wr2) (fun _ j _ => y.length - (intOf j).toNat)
                case atStart => exact ⟨0, by omega, rfl, hOt, hB⟩
                case round =>
                  clear hOt hB c1
                  obtain ⟨i, hi, rfl, hO, hB⟩ := hrel
                  by_cases hlt2 : i < y.length
                  · obtain ⟨e1, e2, e3⟩ := (hset.out i hlt2).out
                    obtain ⟨g, cap, ef, hg1, hg2⟩ := hO.form (by rw [e3, hql.out]; omega)
                    injection ef with ef1 ef2 ef3
                    subst ef1
                    obtain ⟨c2, f2⟩ := hO.at i (by rw [e3, hql.out]; exact hlt2)
                    obtain ⟨ady, rfl, c3⟩ := kb_at (rk_C (hu.below hB)) i (by omega)
                    rw [e1] at c2
                    have hlt3 : (i : Int) < (y.length : Int) := by omega
                    have hlt4 : (i : Int) < (y.length : Int) := by omega
                    have hnx := Lib.hid e2
                    clear e1 e2 e3 ef2 ef3
                    generalize X2.getD i 0 = x at *
                    generalize y.getD i 0 = z at *
                    go_wp2_with fail
                    go_region_law (first
                        | (go_simp; go_at_call 39; refine (add_c x z _ _ _ rfl rfl).mono ?_; rintro e w7 ⟨rfl, rfl⟩)
                        | fail)
                    all_goals go_wp2
                    all_goals
                      have hB1 := below_drew hB
                      obtain ⟨hO2, hgr⟩ := Ob.set (hO.below (below_drew (Below.refl _ _))) i (x + z)
                      rw [hnx.out] at hO2
                      exact ⟨⟨i + 1, by omega, by go_num, hO2, hB1.grown hgr hB1.size (fun k hk => by injection hk with hk; omega)⟩, by simp [intOf]; try omega⟩
                  · obtain rfl : i = y.length := by omega
                    rw [hfin.out] at hO
                    go_wp2
                    exact ⟨⟨k + 1, by omega, by go_num, by rw [HS.out]; exact hO, hB⟩, by simp [intOf]; try omega⟩
              · have hm' : decide ((y.length : Int) < (X.length : Int)) = false := decide_eq_false (by omega)
                have hOt := Ob.take hO (m := X.length) (by omega)
                have hql : (X.take X.length).length = X.length := by rw [List.length_take]; omega
                have hfin : Hid (F.zaddTo (X.take X.length) y X.length = F.zadd X y) := Lib.hid (by
                  have h1 := F.zaddTo_all (X.take X.length) y (by rw [hql]; omega)
                  rw [hql] at h1
                  have h2 := F.zadd_take X y
                  rw [show min X.length y.length = X.length from by omega] at h2
                  rw [h1, h2])
                have hq6 : ((X.length : Nat) : Int) ≤ (c6 : Int) := by omega
                have hq7 : (0 : Int) ≤ ((X.length : Nat) : Int) := by omega
                rw [← F.zaddTo_0 (X.take X.length) y] at hOt
                have hset := fun i (hi : i < X.length) => Lib.hid (And.intro (F.zaddTo_at (X.take X.length) y i (by rw [hql]; exact hi) (by omega)) (And.intro (F.zaddTo_set (X.take X.length) y i (by rw [hql]; exact hi) (by omega)) (F.zaddTo_len (X.take X.length) y i (by rw [hql]; omega) (by omega))))
                replace hset := Lib.hid hset
                replace hql := Lib.hid hql
                generalize X.take X.length = X2 at *
                clear hO
                go_wp2_with fail
                go_loopw [6, 31] (fun _ j wr2 => ∃ i : Nat, i ≤ X.length ∧ j = .int .i64 i ∧ Ob w wr2 (.slice A6 X.length c6) (F.zaddTo X2 y i) ∧ Below w.heap.size w wr2) (fun _ j _ => X.length - (intOf j).toNat)
                case atStart => exact ⟨0, by omega, rfl, hOt, hB⟩
                case round =>
                  clear hOt hB c1
                  obtain ⟨i, hi, rfl, hO, hB⟩ := hrel
                  by_cases hlt2 : i < X.length
                  · obtain ⟨e1, e2, e3⟩ := (hset.out i hlt2).out
                    obtain ⟨g, cap, ef, hg1, hg2⟩ := hO.form (by rw [e3, hql.out]; omega)
                    injection ef with ef1 ef2 ef3
                    subst ef1
                    obtain ⟨c2, f2⟩ := hO.at i (by rw [e3, hql.out]; exact hlt2)
                    obtain ⟨ady, rfl, c3⟩ := kb_at (rk_C (hu.below hB)) i (by omega)
                    rw [e1] at c2
                    have hlt3 : (i : Int) < (X.length : Int) := by omega
                    have hlt4 : (i : Int) < (y.length : Int) := by omega
                    have hnx := Lib.hid e2
                    clear e1 e2 e3 ef2 ef3
                    generalize X2.getD i 0 = x at *
                    generalize y.getD i 0 = z at *
                    go_wp2_with fail
                    go_region_law (first
                        | (go_simp; go_at_call 39; refine (add_c x z _ _ _ rfl rfl).mono ?_; rintro e w7 ⟨rfl, rfl⟩)
                        | fail)
                    all_goals go_wp2
                    all_goals
                      have hB1 := below_drew hB
                      obtain ⟨hO2, hgr⟩ := Ob.set (hO.below (below_drew (Below.refl _ _))) i (x + z)
                      rw [hnx.out] at hO2
                      exact ⟨⟨i + 1, by omega, by go_num, hO2, hB1.grown hgr hB1.size (fun k hk => by injection hk with hk; omega)⟩, by simp [intOf]; try omega⟩
                  · obtain rfl : i = X.length := by omega
                    rw [hfin.out] at hO
                    go_wp2
                    exact ⟨⟨k + 1, by omega, by go_num, by rw [HS.out]; exact hO, hB⟩, by simp [intOf]; try omega⟩
            · obtain rfl : k = rest.length := by omega
              rw [List.take_length] at hO
              go_wp2
              go_ret
              exact ⟨_, rfl, hO, hB⟩
end Go.Proofs.Ytijeabhfddaoaaa
