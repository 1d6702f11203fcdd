/- The walks of the reference of layer 2 (polynomials). -/
import Derived.Test.YtijeabhfddaoaaaK4
import Derived.Test.YtijeabhfddaoaaaL01
import Derived.Test.YtijeabhfddaoaaaM5
namespace Go.Proofs.Ytijeabhfddaoaaa
set_option linter.unusedVariables false
open Go.RowKit Go.Proofs.YtijeabhfddaoaaaW.PrintWords Go.Proofs.Sh

set_option maxRecDepth 100000 in
set_option maxHeartbeats 1600000 in
theorem rAt_c (v : Value) (l : List F) (k : Int) (j : Nat) (x : F) (hk : k = (j : Int)) (hj : (j : Int) ≤ 9223372036854775807) (hx : F.at_ l j = x) (w : World) (hv : Rb w v l) :
   Calls Try.prog 79 #[v, .int .i64 k] w fun e w' => e = .returned (.int .u8 (x.n : Int)) ∧ w = w' := by
  subst hk
  subst hx
  obtain ⟨A, c, rfl, hc, hr⟩ := hv
  have hl := kb_len hr
  have t0 : decide ((j : Int) < 0) = false := decide_eq_false (by omega)
  by_cases h : j < l.length
  · obtain ⟨ad, rfl, c1⟩ := kb_at hr j h
    have t1 : decide ((l.length : Int) ≤ (j : Int)) = false := decide_eq_false (by omega)
    show Calls _ _ _ _ fun e w' => e = .returned (.int .u8 ((l.getD j 0).n : Int)) ∧ _
    generalize l.getD j 0 = a at *
    go_enter Try.func79, Try.ntmps79
    go_wp2
    go_ret
    exact ⟨rfl, rfl⟩
  · rw [F.at_ge (by omega)]
    have t1 : (l.length : Int) ≤ (j : Int) := by omega
    go_enter Try.func79, Try.ntmps79
    go_wp2
    go_ret
    exact ⟨rfl, rfl⟩
set_option maxRecDepth 100000 in
set_option maxHeartbeats 1600000 in
theorem rEval_c (v : Value) (l : List F) (x : F) (w : World) (hv : Rb w v l) :
   Calls Try.prog 76 #[v, .int .u8 (x.n : Int)] w fun e w' => e = .returned (.int .u8 ((F.ev x l).n : Int)) ∧ w = w' := by
  obtain ⟨A, c, rfl, hc, hr⟩ := hv
  have hl := kb_len hr
  go_enter Try.func76, Try.ntmps76
  go_wp2
  go_loop [5, 6, 7] (fun s p i => ∃ (k : Nat) (y : F) (z : F), k ≤ l.length ∧ i = .int .i64 k ∧ s = .int .i64 (y.n : Int) ∧ p = .int .u8 (z.n : Int) ∧ Hid (z = F.pw x k) ∧ Hid (y = F.sm k (fun i => F.at_ l i * F.pw x i))) (fun _ _ i => l.length - (intOf i).toNat)
  case atStart => exact ⟨0, 0, 1, by omega, rfl, rfl, rfl, Lib.hid rfl, Lib.hid rfl⟩
  case round =>
    obtain ⟨k, y, z, hk, rfl, rfl, rfl, hz, hy⟩ := hrel
    have hx1 := n_lt' y
    have hx2 := n_ge y
    by_cases hlt : k < l.length
    · obtain ⟨ad, rfl, c1⟩ := kb_at hr k hlt
      have hi : Hid (y + l.getD k 0 * z = F.sm (k + 1) (fun i => F.at_ l i * F.pw x i)) := Lib.hid (by rw [F.sm_succ, hy.out, hz.out])
      have hz' : Hid (z * x = F.pw x (k + 1)) := Lib.hid (by rw [F.pw_succ, hz.out, F.mul_comm])
      generalize l.getD k 0 = a at *
      have hxor := Lib.hid (xor_n y (a * z))
      have hN := wrap_n (a * z)
      go_wp2_with fail
      refine (rMul_c a z _ _ _ rfl rfl).mono ?_
      rintro e w_ ⟨rfl, rfl⟩
      go_wp2_with fail
      refine (rMul_c z x _ _ _ rfl rfl).mono ?_
      rintro e w_ ⟨rfl, rfl⟩
      go_wp2
      rw [hxor.out]
      exact ⟨⟨k + 1, _, _, by omega, by go_num, rfl, rfl, hz', hi⟩, by simp [intOf]; try omega⟩
    · obtain rfl : k = l.length := by omega
      have h1 := hy.out
      rw [← F.ev_sum] at h1
      subst h1
      go_wp2
      go_ret
      exact ⟨rfl, rfl⟩
set_option maxRecDepth 100000 in
set_option maxHeartbeats 1600000 in
theorem rDegree_c (v : Value) (l : List F) (w : World) (hv : Rb w v l) :
   Calls Try.prog 83 #[v] w fun e w' => e = .returned (.int .i64 (F.deg l)) ∧ w = w' := by
  obtain ⟨A, c, rfl, hc, hr⟩ := hv
  have hl := kb_len hr
  go_enter Try.func83, Try.ntmps83
  go_wp2
  go_loop [3, 4] (fun d i => ∃ (k : Nat) (z : Int), k ≤ l.length ∧ i = .int .i64 k ∧ d = .int .i64 z ∧ Hid (z = F.dg l k)) (fun _ i => l.length - (intOf i).toNat)
  case atStart => exact ⟨0, -1, by omega, rfl, rfl, Lib.hid rfl⟩
  case round =>
    obtain ⟨k, z, hk, rfl, rfl, hy⟩ := hrel
    by_cases hlt : k < l.length
    · obtain ⟨ad, rfl, c1⟩ := kb_at hr k hlt
      by_cases ha : l.getD k 0 = 0
      · have hi : Hid (z = F.dg l (k + 1)) := Lib.hid (by rw [hy.out, F.dg_succ]; exact (if_pos ha).symm)
        have t1 := (n_eq0 ha).2
        generalize l.getD k 0 = a at *
        go_wp2
        exact ⟨⟨k + 1, _, by omega, by go_num, rfl, hi⟩, by simp [intOf]; try omega⟩
      · have hi : Hid ((k : Int) = F.dg l (k + 1)) := Lib.hid (by rw [F.dg_succ]; exact (if_neg ha).symm)
        have t1 := (n_ne0 ha).2
        generalize l.getD k 0 = a at *
        go_wp2
        exact ⟨⟨k + 1, _, by omega, by go_num, rfl, hi⟩, by simp [intOf]; try omega⟩
    · obtain rfl : k = l.length := by omega
      have h1 := hy.out
      subst h1
      go_wp2
      go_ret
      exact ⟨rfl, rfl⟩
set_option maxRecDepth 100000 in
set_option maxHeartbeats 1600000 in
theorem rSum_c (v u : Value) (l m : List F) (w : World) (hv : Rb w v l) (hu : Rb w u m) (b1 : l.length ≤ 1000000) (b2 : m.length ≤ 1000000) :
   Calls Try.prog 78 #[v, u] w fun e w' => ∃ z, e = .returned z ∧ Ob w w' z (F.padd l m) ∧ Below w.heap.size w w' := by
  obtain ⟨A, c, rfl, hc, hr⟩ := hv
  obtain ⟨B, d, rfl, hd, hs⟩ := hu
  have hl := kb_len hr
  have hl' := kb_len hs
  have hlen : Hid ((F.padd l m).length = max l.length m.length) := Lib.hid (F.padd_len l m)
  go_enter Try.func78, Try.ntmps78
  go_wp2
  go_loopw [5, 6] (fun v i wr => ∃ k : Nat, k ≤ max l.length m.length ∧ i = .int .i64 k ∧ Ob w wr v ((F.padd l m).take k) ∧ Below w.heap.size w wr) (fun _ i _ => max l.length m.length - (intOf i).toNat)
  case atStart => exact ⟨0, by omega, rfl, Own.nil _ _ _ _, Below.refl _ _⟩
  case round =>
    obtain ⟨k, hk, rfl, hO, hB⟩ := hrel
    by_cases hlt : k < max l.length m.length
    · have HS : Hid ((F.padd l m).take (k + 1) = (F.padd l m).take k ++ [F.at_ l k + F.at_ m k]) := Lib.hid (by
        rw [take_snoc' _ k 0 (by rw [hlen.out]; exact hlt)]
        congr 2
        exact F.padd_at l m k)
      have hkl : (k : Int) ≤ 9223372036854775807 := by omega
      have hv : Rb w (.slice A l.length c) l := ⟨A, c, rfl, hc, hr⟩
      have hu : Rb w (.slice B m.length d) m := ⟨B, d, rfl, hd, hs⟩
      obtain ⟨x, hx⟩ : ∃ x, F.at_ l k = x := ⟨_, rfl⟩
      obtain ⟨y, hy⟩ : ∃ y, F.at_ m k = y := ⟨_, rfl⟩
      rw [hx, hy] at HS
      have hx := Lib.hid hx
      have hy := Lib.hid hy
      have hX := Lib.hid (xor8 x y)
      have hv := hv.below hB
      have hu := hu.below hB
      by_cases h1 : k < l.length
      · go_wp2_with fail
        refine (rAt_c _ l _ k x rfl hkl hx.out _ hv).mono ?_
        rintro e w_ ⟨rfl, rfl⟩
        go_wp2_with fail
        refine (rAt_c _ m _ k y rfl hkl hy.out _ hu).mono ?_
        rintro e w_ ⟨rfl, rfl⟩
        go_wp2_with (at_builtin; refine app_one (enc := bV) rfl (.tmp 19) (.tmp 27) 40 5 (.int .u8 0) 1 rfl Try.underlying40 infoB rfl (by decide) _ _ (x + y) rfl rfl _ (bV_eq ?hc) hO hB ?hl ?_; (case hc => (first | exact rfl | exact hX.out.symm)); (case hl => (first | (simp; omega) | omega)); intro v1 w1 ho hb hg)
        exact ⟨⟨k + 1, by omega, by go_num, by rw [HS.out]; exact ho, hb⟩, by simp [intOf]; try omega⟩
      · have t1 : decide ((k : Int) < (l.length : Int)) = false := decide_eq_false (by omega)
        have t2 : (k : Int) < (m.length : Int) := by omega
        have t3 : l.length ≤ k := by omega
        go_wp2_with fail
        refine (rAt_c _ l _ k x rfl hkl hx.out _ hv).mono ?_
        rintro e w_ ⟨rfl, rfl⟩
        go_wp2_with fail
        refine (rAt_c _ m _ k y rfl hkl hy.out _ hu).mono ?_
        rintro e w_ ⟨rfl, rfl⟩
        go_wp2_with (at_builtin; refine app_one (enc := bV) rfl (.tmp 19) (.tmp 27) 40 5 (.int .u8 0) 1 rfl Try.underlying40 infoB rfl (by decide) _ _ (x + y) rfl rfl _ (bV_eq ?hc) hO hB ?hl ?_; (case hc => (first | exact rfl | exact hX.out.symm)); (case hl => (first | (simp; omega) | omega)); intro v1 w1 ho hb hg)
        exact ⟨⟨k + 1, by omega, by go_num, by rw [HS.out]; exact ho, hb⟩, by simp [intOf]; try omega⟩
    · have t1 : decide ((k : Int) < (l.length : Int)) = false := decide_eq_false (by omega)
      have t2 : decide ((k : Int) < (m.length : Int)) = false := decide_eq_false (by omega)
      rw [List.take_of_length_le (by rw [hlen.out]; omega)] at hO
      go_wp2
      go_ret
      exact ⟨_, rfl, hO, hB⟩
set_option maxRecDepth 100000 in
set_option maxHeartbeats 1600000 in
theorem rScale_c (v : Value) (l : List F) (x : F) (w : World) (hv : Rb w v l) (b1 : l.length ≤ 1000000) :
   Calls Try.prog 85 #[v, .int .u8 (x.n : Int)] w fun e w' => ∃ z, e = .returned z ∧ Ob w w' z (F.psc x l) ∧ Below w.heap.size w w' := by
  obtain ⟨A, c, rfl, hc, hr⟩ := hv
  have hl := kb_len hr
  go_enter Try.func85, Try.ntmps85
  go_wp2
  go_loopw [5, 6] (fun v i wr => ∃ k : Nat, k ≤ l.length ∧ i = .int .i64 k ∧ Ob w wr v (F.psc x (l.take k)) ∧ Below w.heap.size w wr) (fun _ i _ => l.length - (intOf i).toNat)
  case atStart => exact ⟨0, by omega, rfl, Own.nil _ _ _ _, Below.refl _ _⟩
  case round =>
    obtain ⟨k, hk, rfl, hO, hB⟩ := hrel
    by_cases hlt : k < l.length
    · have HS := Lib.hid (congrArg (F.psc x) (take_snoc' l k 0 hlt))
      obtain ⟨ad, rfl, c1⟩ := kb_at (Kd.C_below hr hB) k hlt
      generalize l.getD k 0 = a at *
      go_wp2_with fail
      refine (rMul_c x a _ _ _ rfl rfl).mono ?_
      rintro e w_ ⟨rfl, rfl⟩
      rw [F.mul_comm x a]
      go_wp2_with (at_builtin; refine app_one (enc := bV) rfl (.tmp 13) (.tmp 20) 40 5 (.int .u8 0) 1 rfl Try.underlying40 infoB rfl (by decide) _ _ (a * x) rfl rfl _ (bV_eq ?hc) hO hB ?hl ?_; (case hc => (first | exact rfl | exact rfl)); (case hl => (first | (simp; omega) | omega)); intro v1 w1 ho hb hg)
      exact ⟨⟨k + 1, by omega, by go_num, by rw [HS.out]; unfold F.psc; rw [List.map_append]; exact ho, hb⟩, by simp [intOf]; try omega⟩
    · obtain rfl : k = l.length := by omega
      rw [List.take_length] at hO
      go_wp2
      go_ret
      exact ⟨_, rfl, hO, hB⟩
set_option maxRecDepth 100000 in
set_option maxHeartbeats 1600000 in
theorem rMul2_c (v u : Value) (l m : List F) (w : World) (hv : Rb w v l) (hu : Rb w u m) (b1 : l.length ≤ 1000000) (b2 : m.length ≤ 1000000) :
   Calls Try.prog 73 #[v, u] w fun e w' => ∃ z, e = .returned z ∧ Ob w w' z (F.pmul l m) ∧ Below w.heap.size w w' := by
  obtain ⟨A, c, rfl, hc, hr⟩ := hv
  obtain ⟨B, d, rfl, hd, hs⟩ := hu
  have hl := kb_len hr
  have hl' := kb_len hs
  have hB := Below.refl w.heap.size w
  by_cases h0 : l.length = 0
  · have : l = [] := List.eq_nil_of_length_eq_zero h0
    subst this
    go_enter Try.func73, Try.ntmps73
    go_wp2
    go_ret
    exact ⟨_, rfl, Own.nil _ _ _ _, hB⟩
  by_cases h1 : m.length = 0
  · have : m = [] := List.eq_nil_of_length_eq_zero h1
    subst this
    go_enter Try.func73, Try.ntmps73
    go_wp2
    go_ret
    rw [F.pmul_nil_r]
    exact ⟨_, rfl, Own.nil _ _ _ _, hB⟩
  · have t1 : ((l.length : Int) == 0) = false := beq_eq_false_iff_ne.2 (by omega)
    have t2 : ((m.length : Int) == 0) = false := beq_eq_false_iff_ne.2 (by omega)
    have hlen : Hid ((F.pmul l m).length = l.length + m.length - 1) := Lib.hid (F.pmul_len (fun e => h0 (by rw [e]; rfl)) (fun e => h1 (by rw [e]; rfl)))
    go_enter Try.func73, Try.ntmps73
    go_wp2
    go_loopw [5, 6] (fun v i wr => ∃ k : Nat, k ≤ l.length + m.length - 1 ∧ i = .int .i64 k ∧ Ob w wr v ((F.pmul l m).take k) ∧ Below w.heap.size w wr) (fun _ i _ => l.length + m.length - 1 - (intOf i).toNat)
    case atStart => exact ⟨0, by omega, rfl, Own.nil _ _ _ _, Below.refl _ _⟩
    case round =>
      clear hB
      obtain ⟨k, hk, rfl, hO, hB⟩ := hrel
      by_cases hlt : k < l.length + m.length - 1
      · have HS : Hid ((F.pmul l m).take (k + 1) = (F.pmul l m).take k ++ [F.sm (k + 1) (fun i => F.at_ l i * F.at_ m (k - i))]) := Lib.hid (by
          rw [take_snoc' _ k 0 (by rw [hlen.out]; exact hlt)]
          congr 2
          show F.at_ (F.pmul l m) k = _
          rw [F.pmul_at, ← F.cf_top l m (max l.length (k + 1)) k (by omega), F.cf_all _ _ (max l.length (k + 1)) k (by omega)])
        have t3 : (k : Int) < (l.length : Int) + (m.length : Int) - 1 := by omega
        go_wp2_with fail
        go_loop [7, 8] (fun s i => ∃ (j : Nat) (y : F), j ≤ k + 1 ∧ i = .int .i64 j ∧ s = .int .i64 (y.n : Int) ∧ Hid (y = F.sm j (fun i => F.at_ l i * F.at_ m (k - i)))) (fun _ i => k + 1 - (intOf i).toNat)
        case atStart => exact ⟨0, 0, by omega, rfl, rfl, Lib.hid rfl⟩
        case round =>
          obtain ⟨j, y, hj, rfl, rfl, hy⟩ := hrel
          have hx1 := n_lt' y
          have hx2 := n_ge y
          by_cases hlt2 : j ≤ k
          · have hv : Rb w (.slice A l.length c) l := ⟨A, c, rfl, hc, hr⟩
            have hu : Rb w (.slice B m.length d) m := ⟨B, d, rfl, hd, hs⟩
            have hv := hv.below hB
            have hu := hu.below hB
            obtain ⟨a, ha⟩ : ∃ x, F.at_ l j = x := ⟨_, rfl⟩
            obtain ⟨a', ha'⟩ : ∃ y, F.at_ m (k - j) = y := ⟨_, rfl⟩
            have hi : Hid (y + a * a' = F.sm (j + 1) (fun i => F.at_ l i * F.at_ m (k - i))) := Lib.hid (by rw [F.sm_succ, hy.out, ha, ha'])
            have ha := Lib.hid ha
            have ha' := Lib.hid ha'
            have hxor := Lib.hid (xor_n y (a * a'))
            have hN := wrap_n (a * a')
            go_wp2_with fail
            refine (rAt_c _ l _ j a rfl (by omega) ha.out _ hv).mono ?_
            rintro e w_ ⟨rfl, rfl⟩
            go_wp2_with fail
            refine (rAt_c _ m _ (k - j) a' (by omega) (by omega) ha'.out _ hu).mono ?_
            rintro e w_ ⟨rfl, rfl⟩
            go_wp2_with fail
            refine (rMul_c a a' _ _ _ rfl rfl).mono ?_
            rintro e w_ ⟨rfl, rfl⟩
            go_wp2
            rw [hxor.out]
            exact ⟨⟨j + 1, _, by omega, by go_num, rfl, hi⟩, by simp [intOf]; try omega⟩
          · obtain rfl : j = k + 1 := by omega
            rw [← hy.out] at HS
            go_wp2_with (at_builtin; refine app_one (enc := bV) rfl (.tmp 45) (.tmp 48) 40 5 (.int .u8 0) 1 rfl Try.underlying40 infoB rfl (by decide) _ _ y rfl rfl _ (bV_eq ?hc) hO hB ?hl ?_; (case hc => (first | exact rfl | exact rfl)); (case hl => (first | (simp; omega) | omega)); intro v1 w1 ho hb hg)
            exact ⟨⟨k + 1, by omega, by go_num, by rw [HS.out]; exact ho, hb⟩, by simp [intOf]; try omega⟩
      · have t3 : decide ((k : Int) < (l.length : Int) + (m.length : Int) - 1) = false := decide_eq_false (by omega)
        rw [List.take_of_length_le (by rw [hlen.out]; omega)] at hO
        go_wp2
        go_ret
        exact ⟨_, rfl, hO, hB⟩
set_option maxRecDepth 100000 in
set_option maxHeartbeats 1600000 in
theorem rRoot_c (v : Value) (l : List F) (w : World) (hv : Rb w v l) (b1 : l.length ≤ 100000) :
   Calls Try.prog 81 #[v] w fun e w' => ∃ z, e = .returned z ∧ Ob w w' z (F.rt l) ∧ Below w.heap.size w w' := by
  obtain ⟨A, c, rfl, hc, hr⟩ := hv
  have hl := kb_len hr
  have hO := lit_own (w0 := w) (W := w) [1] #[.int .u8 1] rfl 1 rfl (by decide) (Nat.le_refl _)
  have hB := below_alloc (Below.refl w.heap.size w) (.cells #[.int .u8 1] 5)
  go_enter Try.func81, Try.ntmps81
  go_wp2_with fail
  generalize (Value.slice (some ⟨w.heap.size, 0, none⟩) 1 1) = v1 at *
  generalize w.alloc (.cells #[.int .u8 1] 5) = w1 at *
  go_loopw [3, 4] (fun v i wr => ∃ k : Nat, k ≤ l.length ∧ i = .int .i64 k ∧ Ob w wr v (F.rt (l.take k)) ∧ Below w.heap.size w wr) (fun _ i _ => l.length - (intOf i).toNat)
  case atStart => exact ⟨0, by omega, rfl, hO, hB⟩
  case round =>
    clear hO hB
    obtain ⟨k, hk, rfl, hO, hB⟩ := hrel
    by_cases hlt : k < l.length
    · have HS := Lib.hid (congrArg F.rt (take_snoc' l k 0 hlt))
      obtain ⟨ad, rfl, c1⟩ := kb_at (Kd.C_below hr hB) k hlt
      generalize l.getD k 0 = x at *
      have hB1 := below_alloc hB (.cells #[.int .u8 (x.n : Int), .int .u8 1] 5)
      have hv := hO.rk.alloc (.cells #[.int .u8 (x.n : Int), .int .u8 1] 5)
      have hu := lit_b wr [x, 1] #[.int .u8 (x.n : Int), .int .u8 1] 5 2 2 rfl rfl (by decide) (by decide)
      have hlen : (F.rt (l.take k)).length ≤ 1000000 := by rw [F.rt_len, List.length_take]; omega
      clear hO hB
      go_wp2_with fail
      refine (rMul2_c _ _ _ _ _ hv hu hlen (by simp)).mono ?_
      rintro e w6 ⟨z, rfl, hz, h6⟩
      rw [← F.rt_snoc, ← HS.out] at hz
      have hz := hz.lower hB1
      have hB := bt_ hB1 h6
      clear hB1 hv hu hlen HS
      go_wp2
      exact ⟨⟨k + 1, by omega, by go_num, hz, hB⟩, by simp [intOf]; try omega⟩
    · obtain rfl : k = l.length := by omega
      rw [List.take_length] at hO
      go_wp2
      go_ret
      exact ⟨_, rfl, hO, hB⟩
end Go.Proofs.Ytijeabhfddaoaaa
