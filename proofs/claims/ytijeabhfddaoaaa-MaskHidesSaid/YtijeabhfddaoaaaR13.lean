/- The walks of the reference of layer 13: blindings. -/
import Derived.Test.YtijeabhfddaoaaaRz
import Derived.Test.YtijeabhfddaoaaaK6
import Derived.Test.YtijeabhfddaoaaaBl
namespace Go.Proofs.Ytijeabhfddaoaaa
set_option linter.unusedVariables false
open Go.RowKit Go.Proofs.YtijeabhfddaoaaaW.PrintWords Go.Proofs.Sh

set_option maxHeartbeats 800000 in
theorem rCheck13_no (p : Pl) (hi : p.In) (h : ¬ p.Ok) (n t : Int) (w : World) :
   Calls Try.prog 96 #[planV p, .int .i64 n, .int .i64 t] w fun e w' => e = .returned (.int .i64 1) ∧ Below w.heap.size w w' := by
  have HP := Blk.new w (planC p) 33
  have hB := below_alloc (Below.refl w.heap.size w) (.cells (planC p) 33)
  go_enter Try.func96, Try.ntmps96
  go_wp2_with fail
  refine (rRight_no p hi h _).mono ?_
  rintro e w1 ⟨rfl, h1⟩
  go_wp2
  go_ret
  exact ⟨rfl, bt_ hB h1⟩
set_option maxHeartbeats 800000 in
theorem rCheck13_two (p : Pl) (h : p.Ok) (n t : Int) (hn : ¬ ((0 ≤ n ∧ n ≤ 240) ∧ (1 ≤ t ∧ t ≤ p.N))) (w : World) :
   Calls Try.prog 96 #[planV p, .int .i64 n, .int .i64 t] w fun e w' => e = .returned (.int .i64 2) ∧ Below w.heap.size w w' := by
  by_cases h0 : n < 0
  · clear hn
    have HP := Blk.new w (planC p) 33
    have hB := below_alloc (Below.refl w.heap.size w) (.cells (planC p) 33)
    go_enter Try.func96, Try.ntmps96
    go_wp2_with fail
    refine (rRight_yes p h _).mono ?_
    rintro e w1 ⟨rfl, h1⟩
    go_wp2
    go_ret
    exact ⟨rfl, bt_ hB h1⟩
  · have t1 : decide (n < 0) = false := decide_eq_false h0
    by_cases h2 : 240 < n
    · clear hn
      have HP := Blk.new w (planC p) 33
      have hB := below_alloc (Below.refl w.heap.size w) (.cells (planC p) 33)
      go_enter Try.func96, Try.ntmps96
      go_wp2_with fail
      refine (rRight_yes p h _).mono ?_
      rintro e w1 ⟨rfl, h1⟩
      go_wp2
      go_ret
      exact ⟨rfl, bt_ hB h1⟩
    · have t2 : decide (240 < n) = false := decide_eq_false h2
      have hd := Lib.hid (decide_eq_false (fun e => hn ⟨by omega, e⟩ : ¬ (1 ≤ t ∧ t ≤ p.N)))
      clear hn
      have HP := Blk.new w (planC p) 33
      have hB := below_alloc (Below.refl w.heap.size w) (.cells (planC p) 33)
      go_enter Try.func96, Try.ntmps96
      go_wp2_with fail
      refine (rRight_yes p h _).mono ?_
      rintro e w1 ⟨rfl, h1⟩
      have HP := HP.below h1
      obtain ⟨c0, c1, c2, c3, c4, c5⟩ := cells6 HP
      have hB := bt_ hB h1
      go_wp2_with fail
      refine (rIs_c p t _).mono ?_
      rintro e w2 ⟨rfl, h2⟩
      rw [hd.out]
      go_wp2
      go_ret
      exact ⟨rfl, bt_ hB h2⟩
set_option maxHeartbeats 800000 in
theorem rCheck13_ok (p : Pl) (h : p.Ok) (n t : Int) (hn : (0 ≤ n ∧ n ≤ 240) ∧ (1 ≤ t ∧ t ≤ p.N)) (w : World) :
   Calls Try.prog 96 #[planV p, .int .i64 n, .int .i64 t] w fun e w' => e = .returned (.int .i64 0) ∧ Below w.heap.size w w' := by
  have t1 : decide (n < 0) = false := decide_eq_false (by omega)
  have t2 : decide (240 < n) = false := decide_eq_false (by omega)
  have hd := Lib.hid (decide_eq_true hn.2)
  clear hn
  have HP := Blk.new w (planC p) 33
  have hB := below_alloc (Below.refl w.heap.size w) (.cells (planC p) 33)
  go_enter Try.func96, Try.ntmps96
  go_wp2_with fail
  refine (rRight_yes p h _).mono ?_
  rintro e w1 ⟨rfl, h1⟩
  have HP := HP.below h1
  obtain ⟨c0, c1, c2, c3, c4, c5⟩ := cells6 HP
  have hB := bt_ hB h1
  go_wp2_with fail
  refine (rIs_c p t _).mono ?_
  rintro e w2 ⟨rfl, h2⟩
  rw [hd.out]
  go_wp2
  go_ret
  exact ⟨rfl, bt_ hB h2⟩
set_option maxHeartbeats 400000 in
theorem rWidth13_c (p : Pl) (h : p.Ok) (w : World) :
   Calls Try.prog 97 #[planV p] w fun e w' => e = .returned (.int .i64 (p.T + p.L - 1)) ∧ Below w.heap.size w w' := by
  obtain ⟨r1, r2⟩ := tl_range h
  have u1 : IntKind.i64.wrap (p.T + p.L) = p.T + p.L := wrapI _ (by omega) (by omega)
  have u2 : IntKind.i64.wrap (p.T + p.L - 1) = p.T + p.L - 1 := wrapI _ (by omega) (by omega)
  have HP := Blk.new w (planC p) 33
  have hB := below_alloc (Below.refl w.heap.size w) (.cells (planC p) 33)
  have c1 := HP.cell 1 _ rfl
  have c2 := HP.cell 2 _ rfl
  go_enter Try.func97, Try.ntmps97
  go_wp2
  go_ret
  exact ⟨rfl, hB⟩
set_option maxRecDepth 100000 in
set_option maxHeartbeats 1600000 in
theorem rPolys13_c (p : Pl) (h : p.Ok) (n T : Nat) (t : Int) (eT : p.T + p.L - 1 = T) (hn2 : n ≤ 240) (tv : Value) (tape : List F) (w : World) (ht : Rb w tv tape) (hlen : T * n ≤ tape.length) :
   Calls Try.prog 99 #[planV p, .int .i64 (n : Int), .int .i64 t, tv] w fun e w' => ∃ z, e = .returned z ∧ Obb w w' z ((List.range n).map fun j => F.pmul [point t, 1] (F.tp T tape j)) ∧ Below w.heap.size w w' := by
  obtain ⟨At, ct, rfl, hct, hct2⟩ := ht
  have ht : Rb w (.slice At tape.length ct) tape := ⟨At, ct, rfl, hct, hct2⟩
  have hlt0 := kb_len hct2
  have hT1 : 1 ≤ T := by have := tl_range h; omega
  have hT2 : T ≤ 256 := by have := tl_range h; omega
  replace eT := Lib.hid eT
  have HP := Blk.new w (planC p) 33
  have hB := below_alloc (Below.refl w.heap.size w) (.cells (planC p) 33)
  go_enter Try.func99, Try.ntmps99
  go_wp2_with fail
  refine (rWidth13_c p h _).mono ?_
  rintro e w1 ⟨rfl, h1⟩
  rw [eT.out]
  have hB := bt_ hB h1
  clear h1 HP
  go_wp2_with fail
  go_loopw [9, 11] (fun s j wr => ∃ k : Nat, k ≤ n ∧ j = .int .i64 k ∧ Obb w wr s ((List.range k).map fun j => F.pmul [point t, 1] (F.tp T tape j)) ∧ Below w.heap.size w wr) (fun _ j _ => n - (intOf j).toNat)
  case atStart => exact ⟨0, by omega, rfl, Own.nil _ _ _ _, hB⟩
  case round =>
    clear hB
    obtain ⟨k, hk, rfl, hO, hB⟩ := hrel
    by_cases hlt : k < n
    · have hlo : k * T + T ≤ tape.length := Nat.le_trans (by rw [← Nat.succ_mul, Nat.mul_comm]; exact Nat.mul_le_mul_left _ hlt) hlen
      have m1 : (k : Int) * (T : Int) = ((k * T : Nat) : Int) := by skip; exact (Int.natCast_mul ..).symm
      have m2 : ((k : Int) + 1) * (T : Int) = ((k * T : Nat) : Int) + (T : Int) := by rw [Int.add_mul, Int.one_mul, m1]; skip
      obtain ⟨ad, rfl, _⟩ := kb_at (rk_C ht) (k * T) (by omega)
      have hmid := rb_mid ht (k * T) T hlo (by omega)
      have hT2' : Hid ((tape.drop (k * T)).take T = F.tp T tape k) := Lib.hid rfl
      rw [hT2'.out] at hmid
      generalize hlo' : k * T = lo at *
      replace hlo' := Lib.hid hlo'
      have n1 : IntKind.i64.wrap (lo : Int) = lo := wrapI _ (by omega) (by omega)
      have n2 : IntKind.i64.wrap ((lo : Int) + T) = lo + T := wrapI _ (by omega) (by omega)
      have n3 : IntKind.i64.wrap ((k : Int) + 1) = k + 1 := wrapI _ (by omega) (by omega)
      have s1 : (0 : Int) ≤ (lo : Int) + T := by omega
      have s2 : (lo : Int) + T ≤ (ct : Int) := by omega
      have s5 : (0 : Int) ≤ (lo : Int) := by omega
      have s3 : ((lo : Int) + T).toNat = lo + T := by omega
      have s4 : ¬ ct = lo := by omega
      have HS := Lib.hid (range_snoc (fun j => F.pmul [point t, 1] (F.tp T tape j)) k)
      have hlen2 : Hid (((List.range k).map (fun j => F.pmul [point t, 1] (F.tp T tape j))).length + 1 ≤ 1000000000) := Lib.hid (by rw [List.length_map, List.length_range]; omega)
      have htl : (F.tp T tape k).length ≤ 1000000 := Nat.le_trans (F.tp_le _ _ _) (by omega)
      generalize htk : F.tp T tape k = tk at *
      replace htk := Lib.hid htk
      generalize hown : point t = own at *
      replace hown := Lib.hid hown
      have hmid := hmid.below hB
      go_wp2_with fail
      go_region_held3 (fun _ => True)
        (exact trivial)
        (first
        | (go_at_call 59; refine (rPoint_c t _).mono ?_; rintro e w6 ⟨rfl, rfl⟩; rw [hown.out])
        | (go_at_call 73; refine (rMul2_c _ _ [own, 1] tk _ (by first | exact lit_b _ [own, 1] _ _ _ _ rfl rfl (by decide) (by decide) | exact (lit_b _ [own, 1] _ _ _ _ rfl rfl (by decide) (by decide)).drew) (by first | exact hmid | exact hmid.drew | exact hmid.alloc _ | exact hmid.drew.alloc _ | exact (hmid.alloc _).drew) (by simp) htl).mono ?_; rintro e w6 ⟨vM, rfl, sM, h6⟩; obtain ⟨A6, c6, rfl⟩ := rk_form sM.rk; replace sM := sM.lower (w0 := w) (by first | exact hB | exact below_drew hB | exact below_alloc (below_drew hB) _ | exact below_alloc hB _ | exact below_drew (below_alloc hB _)); (repeat (first | replace h6 := ba h6 | replace h6 := buN h6 | replace h6 := bu h6)); have hB := bt_ hB h6; have hO := hO.below h6)
        | (refine step_app_r (w0 := w) (by rfl) (.tmp 19) (.tmp 33) (by rfl) _ _ _ _ (by rfl) (by rfl) hO sM hB hlen2.out ?_; intro v8 w8 hO8 hB8 hg8; have hz8 := hB8.size)
        | fail)
      clear hO
      have hO9 : Obb w w8 v8 ((List.range (k + 1)).map fun j => F.pmul [point t, 1] (F.tp T tape j)) := by rw [hown.out, HS.out]; exact hO8
      clear hO8
      go_wp2
      exact ⟨⟨k + 1, by omega, by go_num, by rw [← hown.out]; exact hO9, hB8⟩, by simp [intOf]; try omega⟩
    · obtain rfl : k = n := by omega
      go_wp2
      go_ret
      exact ⟨_, rfl, hO, hB⟩
end Go.Proofs.Ytijeabhfddaoaaa
