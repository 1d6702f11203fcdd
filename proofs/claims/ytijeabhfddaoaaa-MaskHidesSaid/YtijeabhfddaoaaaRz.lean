/- The walks of the references of layers 10, 12, 13: what their laws share. -/
import Derived.Test.YtijeabhfddaoaaaR02
import Derived.Test.YtijeabhfddaoaaaR08b
import Derived.Test.YtijeabhfddaoaaaK5
import Derived.Test.YtijeabhfddaoaaaM11
namespace Go.Proofs.Ytijeabhfddaoaaa
set_option linter.unusedVariables false
open Go.RowKit Go.Proofs.YtijeabhfddaoaaaW.PrintWords Go.Proofs.Sh

/-- A plan of few custodians. -/
def Lite (p : Pl) : Prop := p.N ≤ 12 ∧ p.L ≤ 12 ∧ p.T ≤ 12
instance (p : Pl) : Decidable (Lite p) := inferInstanceAs (Decidable (_ ∧ _ ∧ _))
set_option maxHeartbeats 800000 in
theorem light_c (p : Pl) (w : World) :
   Calls Try.prog 93 #[planV p] w fun e w' => e = .returned (.bool (decide (Lite p))) ∧ Below w.heap.size w w' := by
  have HP := isPlan_alloc w p 33
  have c0 := HP.n
  have c1 := HP.t
  have c2 := HP.l
  have hB := below_alloc (Below.refl w.heap.size w) (.cells (planC p) 33)
  by_cases h1 : p.N ≤ 12
  · by_cases h2 : p.L ≤ 12
    · by_cases h3 : p.T ≤ 12
      · have hd : Hid (decide (Lite p) = true) := Lib.hid (decide_eq_true ⟨h1, h2, h3⟩)
        go_enter Try.func93, Try.ntmps93
        go_wp2
        go_ret
        rw [hd.out]
        exact ⟨rfl, hB⟩
      · have hd : Hid (decide (Lite p) = false) := Lib.hid (decide_eq_false (fun h => h3 h.2.2))
        have t3 : decide (p.T ≤ 12) = false := decide_eq_false h3
        go_enter Try.func93, Try.ntmps93
        go_wp2
        go_ret
        rw [hd.out]
        exact ⟨rfl, hB⟩
    · have hd : Hid (decide (Lite p) = false) := Lib.hid (decide_eq_false (fun h => h2 h.2.1))
      have t2 : decide (p.L ≤ 12) = false := decide_eq_false h2
      go_enter Try.func93, Try.ntmps93
      go_wp2
      go_ret
      rw [hd.out]
      exact ⟨rfl, hB⟩
  · have hd : Hid (decide (Lite p) = false) := Lib.hid (decide_eq_false (fun h => h1 h.1))
    have t1 : decide (p.N ≤ 12) = false := decide_eq_false h1
    go_enter Try.func93, Try.ntmps93
    go_wp2
    go_ret
    rw [hd.out]
    exact ⟨rfl, hB⟩
/-! ### Check of layer 12 -/
set_option maxHeartbeats 800000 in
theorem rCheck12_no (p : Pl) (hi : p.In) (h : ¬ p.Ok) (n : Int) (tv : Value) (w : World) :
   Calls Try.prog 114 #[planV p, .int .i64 n, tv] w fun e w' => e = .returned (.int .i64 1) ∧ Below w.heap.size w w' := by
  have HP := Blk.new w (planC p) 33
  have hB := below_alloc (Below.refl w.heap.size w) (.cells (planC p) 33)
  go_enter Try.func114, Try.ntmps114
  go_wp2_with fail
  refine (rRight_no p hi h _).mono ?_
  rintro e w1 ⟨rfl, h1⟩
  go_wp2
  go_ret
  exact ⟨rfl, bt_ hB h1⟩
set_option maxHeartbeats 800000 in
theorem rCheck12_few (p : Pl) (h : p.Ok) (n : Int) (hn : ¬ (0 ≤ n ∧ n ≤ 240)) (tv : Value) (w : World) :
   Calls Try.prog 114 #[planV p, .int .i64 n, tv] w fun e w' => e = .returned (.int .i64 2) ∧ Below w.heap.size w w' := by
  by_cases h0 : n < 0
  · have HP := Blk.new w (planC p) 33
    have hB := below_alloc (Below.refl w.heap.size w) (.cells (planC p) 33)
    go_enter Try.func114, Try.ntmps114
    go_wp2_with fail
    refine (rRight_yes p h _).mono ?_
    rintro e w1 ⟨rfl, h1⟩
    go_wp2
    go_ret
    exact ⟨rfl, bt_ hB h1⟩
  · have t1 : decide (n < 0) = false := decide_eq_false h0
    have t2 : (240 : Int) < n := by omega
    clear hn
    have HP := Blk.new w (planC p) 33
    have hB := below_alloc (Below.refl w.heap.size w) (.cells (planC p) 33)
    go_enter Try.func114, Try.ntmps114
    go_wp2_with fail
    refine (rRight_yes p h _).mono ?_
    rintro e w1 ⟨rfl, h1⟩
    go_wp2
    go_ret
    exact ⟨rfl, bt_ hB h1⟩
set_option maxHeartbeats 800000 in
theorem rCheck12_short (p : Pl) (h : p.Ok) (n : Nat) (hn2 : (n : Int) ≤ 240) (tv : Value) (tape : List F) (w : World) (ht : Rb w tv tape) (hl : (tape.length : Int) < p.T * n) :
   Calls Try.prog 114 #[planV p, .int .i64 n, tv] w fun e w' => e = .returned (.int .i64 12) ∧ Below w.heap.size w w' := by
  obtain ⟨At, ct, rfl, hct, hct2⟩ := ht
  have t3 : decide ((tape.length : Int) < p.T * n) = true := decide_eq_true hl
  have t1 : decide ((n : Int) < 0) = false := decide_eq_false (by omega)
  have t2 : decide ((240 : Int) < n) = false := decide_eq_false (by omega)
  have m0 : p.T * n ≤ 256 * 240 := Int.mul_le_mul (by have := h.t; have := h.tl; have := h.wn; have := h.nl; have := h.l; omega) hn2 (by omega) (by omega)
  have m1 : 0 ≤ p.T * n := Int.mul_nonneg (by have := h.t; omega) (by omega)
  have m2 : IntKind.i64.wrap (p.T * n) = p.T * n := wrapI _ (by omega) (by omega)
  have HP := Blk.new w (planC p) 33
  have hB := below_alloc (Below.refl w.heap.size w) (.cells (planC p) 33)
  go_enter Try.func114, Try.ntmps114
  go_wp2_with fail
  refine (rRight_yes p h _).mono ?_
  rintro e w1 ⟨rfl, h1⟩
  have c1 := (HP.below h1).cell 1 _ rfl
  go_wp2
  go_ret
  exact ⟨rfl, bt_ hB h1⟩
set_option maxHeartbeats 800000 in
theorem rCheck12_ok (p : Pl) (h : p.Ok) (n : Nat) (hn2 : (n : Int) ≤ 240) (tv : Value) (tape : List F) (w : World) (ht : Rb w tv tape) (hl : p.T * n ≤ (tape.length : Int)) :
   Calls Try.prog 114 #[planV p, .int .i64 n, tv] w fun e w' => e = .returned (.int .i64 0) ∧ Below w.heap.size w w' := by
  obtain ⟨At, ct, rfl, hct, hct2⟩ := ht
  have t3 : decide ((tape.length : Int) < p.T * n) = false := decide_eq_false (by omega)
  have t1 : decide ((n : Int) < 0) = false := decide_eq_false (by omega)
  have t2 : decide ((240 : Int) < n) = false := decide_eq_false (by omega)
  have m0 : p.T * n ≤ 256 * 240 := Int.mul_le_mul (by have := h.t; have := h.tl; have := h.wn; have := h.nl; have := h.l; omega) hn2 (by omega) (by omega)
  have m1 : 0 ≤ p.T * n := Int.mul_nonneg (by have := h.t; omega) (by omega)
  have m2 : IntKind.i64.wrap (p.T * n) = p.T * n := wrapI _ (by omega) (by omega)
  have HP := Blk.new w (planC p) 33
  have hB := below_alloc (Below.refl w.heap.size w) (.cells (planC p) 33)
  go_enter Try.func114, Try.ntmps114
  go_wp2_with fail
  refine (rRight_yes p h _).mono ?_
  rintro e w1 ⟨rfl, h1⟩
  have c1 := (HP.below h1).cell 1 _ rfl
  go_wp2
  go_ret
  exact ⟨rfl, bt_ hB h1⟩
/-! ### a share of polynomials -/
set_option maxRecDepth 100000 in
set_option maxHeartbeats 1600000 in
theorem rShare_c (v : Value) (l : List (List F)) (i : Int) (w : World) (hv : Rbb w v l) (hl : l.length ≤ 1000000) :
   Calls Try.prog 100 #[v, .int .i64 i] w fun e w' => ∃ z, e = .returned z ∧ Ob w w' z (l.map (F.ev (point i))) ∧ Below w.heap.size w w' := by
  obtain ⟨A, c, rfl, hc, hr⟩ := hv
  go_enter Try.func100, Try.ntmps100
  go_wp2
  go_loopw [5, 6] (fun s j wr => ∃ k : Nat, k ≤ l.length ∧ j = .int .i64 k ∧ Ob w wr s ((l.take k).map (F.ev (point i))) ∧ Below w.heap.size w wr) (fun _ j _ => l.length - (intOf j).toNat)
  case atStart => exact ⟨0, by omega, rfl, Own.nil _ _ _ _, Below.refl _ _⟩
  case round =>
    obtain ⟨k, hk, rfl, hO, hB⟩ := hrel
    by_cases hlt : k < l.length
    · obtain ⟨ad, u, rfl, d0, hu⟩ := kbb_at hr k hlt
      have c0 := pw_cell_below hB d0
      have hu := hu.below hB
      replace d0 := Lib.hid d0
      have HS := Lib.hid (congrArg (List.map (F.ev (point i))) (take_snoc' l k [] hlt))
      have hlen : Hid (((l.take k).map (F.ev (point i))).length ≤ 1000000000) := Lib.hid (by rw [List.length_map, List.length_take]; omega)
      generalize l.getD k [] = q at *
      go_wp2_with fail
      go_region_held3 (fun w' => w'.cell? (ad.add k) = some u)
        (go_keep)
        (first
        | (go_at_call 59; refine (rPoint_c i _).mono ?_; rintro e w6 ⟨rfl, rfl⟩)
        | (go_at_call 76; refine (rEval_c _ q (point i) _ (by first | exact hu | exact hu.drew | exact hu.drewN _)).mono ?_; rintro e w7 ⟨rfl, rfl⟩)
        | (refine step_app_y (w0 := w) (by rfl) (.tmp 13) (.tmp 21) (by rfl) _ _ (F.ev (point i) q) _ (by rfl) (by rfl) (by rfl) (hO.below (below_drew (Below.refl _ _))) (below_drew hB) hlen.out ?_; intro v8 w8 hO8 hB8 hg8; have c0 := pw_cell_below hB8 d0.out)
        | fail)
      clear hO
      have hO9 : Ob w w8 v8 ((l.take (k + 1)).map (F.ev (point i))) := by rw [HS.out, List.map_append]; exact hO8
      clear hO8
      go_wp2
      exact ⟨⟨k + 1, by omega, by go_num, hO9, hB8⟩, by simp [intOf]; try omega⟩
    · obtain rfl : k = l.length := by omega
      rw [List.take_length] at hO
      go_wp2
      go_ret
      exact ⟨_, rfl, hO, hB⟩
/-! ### Polys of layer 12 -/

set_option maxRecDepth 100000 in
set_option maxHeartbeats 1600000 in
theorem rPolys12_c (p : Pl) (h : p.Ok) (n T : Nat) (eT : p.T = T) (hn2 : n ≤ 240) (tv : Value) (tape : List F) (w : World) (ht : Rb w tv tape) (hlen : T * n ≤ tape.length) :
   Calls Try.prog 116 #[planV p, .int .i64 (n : Int), tv] w fun e w' => ∃ z, e = .returned z ∧ Obb w w' z ((List.range n).map fun j => F.pmul (F.rt (secretsAt p)) (F.tp T tape j)) ∧ Below w.heap.size w w' := by
  obtain ⟨At, ct, rfl, hct, hct2⟩ := ht
  have ht : Rb w (.slice At tape.length ct) tape := ⟨At, ct, rfl, hct, hct2⟩
  have hlt0 := kb_len hct2
  have hT1 : 1 ≤ T := by have := h.t; omega
  have hT2 : T ≤ 256 := by have := h.t; have := h.l; have := h.tl; have := h.wn; have := h.nl; omega
  have hsl : (secretsAt p).length ≤ 1000 := by rw [secrets_len]; have := h.nl; have := h.t; have := h.tl; have := h.wn; omega
  have hrl : (F.rt (secretsAt p)).length ≤ 1000000 := by rw [F.rt_len]; omega
  replace eT := Lib.hid eT
  have HP := Blk.new w (planC p) 33
  have hB := below_alloc (Below.refl w.heap.size w) (.cells (planC p) 33)
  go_enter Try.func116, Try.ntmps116
  go_wp2_with fail
  generalize w.alloc (.cells (planC p) 33) = w1 at *
  go_loopw [7, 8] (fun s j wr => ∃ k : Nat, k ≤ n ∧ j = .int .i64 k ∧ Obb w wr s ((List.range k).map fun j => F.pmul (F.rt (secretsAt p)) (F.tp T tape j)) ∧ Blk wr w.heap.size (planC p) 33 ∧ Below w.heap.size w wr) (fun _ j _ => n - (intOf j).toNat)
  case atStart => exact ⟨0, by omega, rfl, Own.nil _ _ _ _, HP, hB⟩
  case round =>
    clear HP hB
    obtain ⟨k, hk, rfl, hO, HP, hB⟩ := hrel
    by_cases hlt : k < n
    · have hlo : k * T + T ≤ tape.length := Nat.le_trans (by rw [← Nat.succ_mul, Nat.mul_comm]; exact Nat.mul_le_mul_left _ hlt) hlen
      have m1 : (k : Int) * p.T = ((k * T : Nat) : Int) := by rw [eT.out]; exact (Int.natCast_mul ..).symm
      have m2 : ((k : Int) + 1) * p.T = ((k * T : Nat) : Int) + (T : Int) := by rw [Int.add_mul, Int.one_mul, m1]; rw [eT.out]
      obtain ⟨ad, rfl, _⟩ := kb_at (rk_C ht) (k * T) (by omega)
      have hmid := rb_mid ht (k * T) T hlo (by omega)
      have hT2' : Hid ((tape.drop (k * T)).take T = F.tp T tape k) := Lib.hid rfl
      rw [hT2'.out] at hmid
      generalize hlo' : k * T = lo at *
      replace hlo' := Lib.hid hlo'
      have n1 : IntKind.i64.wrap (lo : Int) = lo := wrapI _ (by omega) (by omega)
      have n2 : IntKind.i64.wrap ((lo : Int) + T) = lo + T := wrapI _ (by omega) (by omega)
      have n3 : IntKind.i64.wrap ((k : Int) + 1) = k + 1 := wrapI _ (by omega) (by omega)
      have s1 : (0 : Int) ≤ (lo : Int) + T := by omega
      have s2 : (lo : Int) + T ≤ (ct : Int) := by omega
      have s5 : (0 : Int) ≤ (lo : Int) := by omega
      have s3 : ((lo : Int) + T).toNat = lo + T := by omega
      have s4 : ¬ ct = lo := by omega
      have HS := Lib.hid (range_snoc (fun j => F.pmul (F.rt (secretsAt p)) (F.tp T tape j)) k)
      have hlen2 : Hid (((List.range k).map (fun j => F.pmul (F.rt (secretsAt p)) (F.tp T tape j))).length + 1 ≤ 1000000000) := Lib.hid (by rw [List.length_map, List.length_range]; omega)
      have htl : (F.tp T tape k).length ≤ 1000000 := Nat.le_trans (F.tp_le _ _ _) (by omega)
      generalize htk : F.tp T tape k = tk at *
      replace htk := Lib.hid htk
      obtain ⟨c0, c1, c2, c3, c4, c5⟩ := cells6 HP
      have c1' := c1
      rw [eT.out] at c1'
      have hmid := hmid.below hB
      go_wp2_with fail
      go_region_held3 (fun w' => w'.cell? ⟨w.heap.size, 0, none⟩ = some (.int .i64 p.N) ∧ w'.cell? ⟨w.heap.size, 1, none⟩ = some (.int .i64 p.T) ∧ w'.cell? ⟨w.heap.size, 2, none⟩ = some (.int .i64 p.L) ∧ w'.cell? ⟨w.heap.size, 3, none⟩ = some (.int .i64 p.W) ∧ w'.cell? ⟨w.heap.size, 4, none⟩ = some (.int .i64 p.S) ∧ w'.cell? ⟨w.heap.size, 5, none⟩ = some (.int .i64 p.R))
        (go_keep)
        (first
        | (go_at_call 66; refine (rSecrets_c p h _).mono ?_; rintro e w6 ⟨vS, rfl, sS, h6⟩; replace sS := sS.rk; (repeat (first | replace h6 := ba h6 | replace h6 := buN h6 | replace h6 := bu h6)); have HP := HP.below h6; have hB := bt_ hB h6; obtain ⟨c0, c1, c2, c3, c4, c5⟩ := cells6 HP; have hO := hO.below h6; have hmid := hmid.below h6)
        | (go_at_call 81; refine (rRoot_c _ _ _ (by first | exact sS | exact sS.drew | exact sS.drewN _) (by omega)).mono ?_; rintro e w6 ⟨vR, rfl, sR, h6⟩; replace sR := sR.rk; (repeat (first | replace h6 := ba h6 | replace h6 := buN h6 | replace h6 := bu h6)); have HP := HP.below h6; have hB := bt_ hB h6; obtain ⟨c0, c1, c2, c3, c4, c5⟩ := cells6 HP; have hO := hO.below h6; have hmid := hmid.below h6)
        | (go_at_call 73; refine (rMul2_c _ _ _ tk _ (by first | exact sR | exact sR.drew | exact sR.drewN _) (by first | exact hmid | exact hmid.drew | exact hmid.drewN _) hrl htl).mono ?_; rintro e w6 ⟨vM, rfl, sM, h6⟩; obtain ⟨A6, c6, rfl⟩ := rk_form sM.rk; replace sM := sM.lower (w0 := w) (by first | exact hB | exact below_drew hB); (repeat (first | replace h6 := ba h6 | replace h6 := buN h6 | replace h6 := bu h6)); have HP := HP.below h6; have hB := bt_ hB h6; obtain ⟨c0, c1, c2, c3, c4, c5⟩ := cells6 HP; have hO := hO.below h6)
        | (refine step_app_r (w0 := w) (by rfl) (.tmp 14) (.tmp 30) (by rfl) _ _ _ _ (by rfl) (by rfl) hO sM hB hlen2.out ?_; intro v8 w8 hO8 hB8 hg8; have HP := HP.grown hO (by decide) hg8; obtain ⟨c0, c1, c2, c3, c4, c5⟩ := cells6 HP)
        | fail)
      clear hO
      have hO9 : Obb w w8 v8 ((List.range (k + 1)).map fun j => F.pmul (F.rt (secretsAt p)) (F.tp T tape j)) := by rw [HS.out]; exact hO8
      clear hO8
      go_wp2
      exact ⟨⟨k + 1, by omega, by go_num, hO9, HP, hB8⟩, by simp [intOf]; try omega⟩
    · obtain rfl : k = n := by omega
      go_wp2
      go_ret
      exact ⟨_, rfl, hO, hB⟩
/-! ### Add -/
set_option maxRecDepth 100000 in
set_option maxHeartbeats 1600000 in
theorem rAdd12_c (v u : Value) (l m : List F) (w : World) (hv : Rb w v l) (hu : Rb w u m) (b1 : l.length ≤ 1000000) :
   Calls Try.prog 117 #[v, u] w fun e w' => ∃ z, e = .returned z ∧ Ob w w' z (F.zadd l m) ∧ Below w.heap.size w w' := by
  obtain ⟨A, c, rfl, hc, hr⟩ := hv
  obtain ⟨B, d, rfl, hd, hs⟩ := hu
  have hl := kb_len hr
  have hl2 := kb_len hs
  go_enter Try.func117, Try.ntmps117
  go_wp2
  go_loopw [5, 6] (fun s j wr => ∃ k : Nat, k ≤ l.length ∧ k ≤ m.length ∧ j = .int .i64 k ∧ Ob w wr s (F.zadd (l.take k) (m.take k)) ∧ Below w.heap.size w wr) (fun _ j _ => l.length - (intOf j).toNat)
  case atStart => exact ⟨0, by omega, by omega, rfl, Own.nil _ _ _ _, Below.refl _ _⟩
  case round =>
    obtain ⟨k, hk, hk2, rfl, hO, hB⟩ := hrel
    by_cases hlt : k < l.length
    · by_cases hlt2 : k < m.length
      · obtain ⟨ad, rfl, c0⟩ := kb_at hr k hlt
        obtain ⟨ad2, rfl, c1⟩ := kb_at hs k hlt2
        have d0 := Lib.hid c0
        have d1 := Lib.hid c1
        have c0 := pw_cell_below hB c0
        have c1 := pw_cell_below hB c1
        have HS := Lib.hid (F.zadd_snoc l m k hlt hlt2)
        have hlen : Hid ((F.zadd (l.take k) (m.take k)).length ≤ 1000000000) := Lib.hid (by rw [F.zadd_len, List.length_take]; omega)
        generalize l.getD k 0 = x at *
        generalize m.getD k 0 = y at *
        have X1 := xor8 x y
        have X2 := Lib.hid (rfl : ((x + y).n : Int) = ((x + y).n : Int))
        go_wp2_with fail
        go_region_held3 (fun w' => w'.cell? (ad.add k) = some (.int .u8 (x.n : Int)) ∧ w'.cell? (ad2.add k) = some (.int .u8 (y.n : Int)))
          (go_keep)
          (first
          | (refine step_app_y (w0 := w) (by rfl) (.tmp 19) (.tmp 29) (by rfl) _ _ (x + y) _ (by rfl) (by rfl) (by rfl) (hO.below (below_drew (Below.refl _ _))) (below_drew hB) hlen.out ?_; intro v8 w8 hO8 hB8 hg8; have c0 := pw_cell_below hB8 d0.out; have c1 := pw_cell_below hB8 d1.out)
          | fail)
        clear hO
        have hO9 : Ob w w8 v8 (F.zadd (l.take (k + 1)) (m.take (k + 1))) := by rw [HS.out]; exact hO8
        clear hO8
        go_wp2
        exact ⟨⟨k + 1, by omega, by omega, by go_num, hO9, hB8⟩, by simp [intOf]; try omega⟩
      · obtain rfl : k = m.length := by omega
        have t2 : decide ((m.length : Int) < (m.length : Int)) = false := decide_eq_false (by omega)
        rw [F.zadd_done _ _ _ (.inr (Nat.le_refl _))] at hO
        go_wp2
        go_ret
        exact ⟨_, rfl, hO, hB⟩
    · obtain rfl : k = l.length := by omega
      have t2 : decide ((l.length : Int) < (l.length : Int)) = false := decide_eq_false (by omega)
      rw [F.zadd_done _ _ _ (.inl (Nat.le_refl _))] at hO
      go_wp2
      go_ret
      exact ⟨_, rfl, hO, hB⟩
end Go.Proofs.Ytijeabhfddaoaaa
