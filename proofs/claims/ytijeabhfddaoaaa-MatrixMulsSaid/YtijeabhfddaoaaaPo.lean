/- The walks of package poly. -/
import Derived.Test.YtijeabhfddaoaaaK4
import Derived.Deep.RegionLaw
import Derived.Test.YtijeabhfddaoaaaL01
import Derived.Test.YtijeabhfddaoaaaM5
namespace Go.Proofs.Ytijeabhfddaoaaa
set_option linter.unusedVariables false
open Go.RowKit Go.Proofs.YtijeabhfddaoaaaW.PrintWords Go.Proofs.Sh

theorem IsField.alloc {w : World} {b : Nat} (h : IsField w b) (o : Obj) : IsField (w.alloc o) b := h.below (below_alloc (Below.refl _ _) o)
set_option maxRecDepth 100000 in
set_option maxHeartbeats 1600000 in
theorem pEval_c (b : Nat) (v : Value) (l : List F) (x : F) (w : World) (hF : IsField w b) (hv : Rb w v l) :
   Calls Try.prog 74 #[fp b, v, .int .u8 (x.n : Int)] w fun e w' => e = .returned (.int .u8 ((F.ev x l).n : Int)) ∧ Drawn0 w w' := by
  obtain ⟨A, c, rfl, hc, hr⟩ := hv
  have hl := kb_len hr
  go_enter Try.func74, Try.ntmps74
  go_wp2
  go_loopw [7, 8] (fun s i wr => ∃ (k : Nat) (z : Int) (y : F), k ≤ l.length ∧ i = .int .i64 z ∧ z = (k : Int) - 1 ∧ s = .int .u8 (y.n : Int) ∧ Hid (y = F.ev x (l.drop k)) ∧ Drawn0 w wr) (fun _ i _ => (intOf i + 1).toNat)
  case atStart => exact ⟨l.length, _, 0, by omega, rfl, rfl, rfl, Lib.hid (by simp [F.ev]), Drawn0.refl _⟩
  case round =>
    obtain ⟨k, z, y, hk, rfl, hz, rfl, hy, hD⟩ := hrel
    cases k with
    | zero =>
      obtain rfl : z = -1 := hz
      go_wp2
      go_ret
      have h1 := hy.out
      rw [List.drop_zero] at h1
      subst h1
      exact ⟨rfl, hD⟩
    | succ j =>
      obtain rfl : z = (j : Int) := by omega
      clear hz
      obtain ⟨ad, rfl, c1⟩ := kb_at (kb_drawn hr hD) j (by omega)
      have hF' := hF.below hD.below
      have hi : Hid (y * x + l.getD j 0 = F.ev x (l.drop j)) := Lib.hid (by rw [F.ev_drop x l j, hy.out, F.add_comm])
      generalize l.getD j 0 = a at *
      go_wp2
      go_quiet ((first | (go_at_call 40; exact qd (mul_c b y x _ (hF'.drewN _) _ _ rfl rfl)) | (go_at_call 39; exact qs (add_c (y * x) a _ _ _ rfl rfl)) | fail))
      go_wp2
      exact ⟨⟨j, _, _, by omega, rfl, by go_num, rfl, hi, hD.step _⟩, by simp [intOf]; try omega⟩
set_option maxRecDepth 100000 in
set_option maxHeartbeats 1600000 in
theorem pDegree_c (v : Value) (l : List F) (w : World) (hv : Rb w v l) :
   Calls Try.prog 82 #[v] w fun e w' => e = .returned (.int .i64 (F.deg l)) ∧ w = w' := by
  obtain ⟨A, c, rfl, hc, hr⟩ := hv
  have hl := kb_len hr
  go_enter Try.func82, Try.ntmps82
  go_wp2
  go_loop [3] (fun i => ∃ (k : Nat) (z : Int), k ≤ l.length ∧ i = .int .i64 z ∧ z = (k : Int) - 1 ∧ Hid (F.deg l = F.dg l k)) (fun i => (intOf i + 1).toNat)
  case atStart => exact ⟨l.length, _, by omega, rfl, rfl, Lib.hid rfl⟩
  case round =>
    obtain ⟨k, z, hk, rfl, hz, hy⟩ := hrel
    cases k with
    | zero =>
      obtain rfl : z = -1 := hz
      go_wp2
      go_ret
      rw [hy.out]
      exact ⟨rfl, rfl⟩
    | succ j =>
      obtain rfl : z = (j : Int) := by omega
      clear hz
      obtain ⟨ad, rfl, c1⟩ := kb_at hr j (by omega)
      by_cases ha : l.getD j 0 = 0
      · have hi : Hid (F.deg l = F.dg l j) := Lib.hid (by rw [hy.out, F.dg_succ]; exact if_pos ha)
        have t1 := (n_eq0 ha).2
        generalize l.getD j 0 = a at *
        go_wp2
        exact ⟨⟨j, _, by omega, rfl, by go_num, hi⟩, by simp [intOf]; try omega⟩
      · have hi : Hid (F.deg l = (j : Int)) := Lib.hid (by rw [hy.out, F.dg_succ]; exact if_neg ha)
        have t1 := (n_ne0 ha).2
        generalize l.getD j 0 = a at *
        go_wp2
        go_ret
        rw [hi.out]
        exact ⟨rfl, rfl⟩
set_option maxRecDepth 100000 in
set_option maxRecDepth 100000 in
set_option maxHeartbeats 1600000 in
theorem pScale_c (b : Nat) (v : Value) (l : List F) (x : F) (w : World) (hF : IsField w b) (hv : Rb w v l) (hm : l.length ≤ 100000) :
   Calls Try.prog 84 #[fp b, v, .int .u8 (x.n : Int)] w fun e w' => ∃ u, e = .returned u ∧ Ob w w' u (F.psc x l) ∧ Below w.heap.size w w' := by
  obtain ⟨A, c, rfl, hc, hr⟩ := hv
  have hl := kb_len hr
  have hB := Below.refl w.heap.size w
  go_enter Try.func84, Try.ntmps84
  go_wp2_with ((with_reducible refine gate_dst (N := 12) rfl ?_); refine mk_cap kb rfl 40 5 _ _ rfl .i64 _ rfl rfl Try.underlying40 (.int .u8 0) 1 infoB (by decide) ?h0 ?hl hB ?_; (case h0 => omega); (case hl => omega); intro v1 w1 ho hb hg)
  have hO := ho
  have hB := hb
  clear ho hb hg
  go_loopw [7, 15] (fun v i wr => ∃ k : Nat, k ≤ l.length ∧ i = .int .i64 k ∧ Ob w wr v (F.psc x (l.take k)) ∧ Below w.heap.size w wr) (fun _ i _ => l.length - (intOf i).toNat)
  case atStart => exact ⟨0, by omega, rfl, hO, hB⟩
  case round =>
    clear hO hB
    obtain ⟨k, hk, rfl, hO, hB⟩ := hrel
    by_cases hlt : k < l.length
    · have HS := Lib.hid (congrArg (F.psc x) (take_snoc' l k 0 hlt))
      obtain ⟨ad, rfl, c1⟩ := kb_at (Kd.C_below hr hB) k hlt
      have hF' := hF.below hB
      generalize l.getD k 0 = a at *
      go_wp2_with fail
      refine (mul_c b a x _ hF' _ _ rfl rfl).mono ?_
      rintro e w2 ⟨rfl, h2⟩
      have hO := hO.drawn h2
      have hB := bd hB h2
      go_wp2_with (at_builtin; refine app_one (enc := bV) rfl (.tmp 19) (.tmp 24) 40 5 (.int .u8 0) 1 rfl Try.underlying40 infoB rfl (by decide) _ _ (a * x) rfl rfl _ (bV_eq ?hc) hO hB ?hl ?_; (case hc => (first | exact rfl | exact rfl)); (case hl => (first | (simp; omega) | omega)); intro v1 w1 ho hb hg)
      exact ⟨⟨k + 1, by omega, by go_num, by rw [HS.out]; unfold F.psc; rw [List.map_append]; exact ho, hb⟩, by simp [intOf]; try omega⟩
    · obtain rfl : k = l.length := by omega
      rw [List.take_length] at hO
      go_wp2
      go_ret
      exact ⟨_, rfl, hO, hB⟩
set_option maxRecDepth 100000 in
set_option maxHeartbeats 1600000 in
theorem pSum_c (v u : Value) (l m : List F) (w : World) (hv : Rb w v l) (hu : Rb w u m) (b1 : l.length ≤ 1000000) (b2 : m.length ≤ 1000000) :
   Calls Try.prog 75 #[v, u] w fun e w' => ∃ z, e = .returned z ∧ Ob w w' z (F.padd l m) ∧ Below w.heap.size w w' := by
  by_cases hml : l.length < m.length
  · rw [F.padd_comm]
    revert hv hu b1 b2 hml
    generalize l = m1
    generalize m = l
    generalize m1 = m
    intro hv hu b1 b2 hml
    obtain ⟨B, d, rfl, hd, hs⟩ := hv
    obtain ⟨A, c, rfl, hc, hr⟩ := hu
    have hl := kb_len hr
    have hl' := kb_len hs
    have hB := Below.refl w.heap.size w
    go_enter Try.func75, Try.ntmps75
    go_wp2_with (first | ((with_reducible refine gate_dst (N := 17) rfl ?_); refine mk_len kb rfl (N := 17) rfl 40 5 _ _ rfl _ rfl rfl Try.underlying40 (.int .u8 0) 1 infoB rfl Nat.one_pos (by decide) (0 : F) rfl ?h0 ?hl hB ?_; (case h0 => omega); (case hl => omega); intro v1 w1 ho hb hg) | ((with_reducible refine gate_dst (N := 20) rfl ?_); refine halt ?_) | fail)
    refine ⟨?_⟩
    have hO := ho
    have hB := hb
    clear ho hb hg
    rw [Int.toNat_natCast] at hO
    refine Kd.R_copy (0 : F) (enc := bV) (h1 := fun _ => rfl) (w0 := w) w.heap.size rfl (.tmp 18) (.tmp 19) 40 40 5 rfl Try.underlying40 infoC _ _ _ _ _ _ T_ rfl rfl hO (Kd.C_below hr hB) hB (hB).size ?_
    intro w1 ho hb hg
    replace ho : Ob w w1 v1 _ := ho
    rw [copy_all] at ho
    have hO := ho
    have hB := hb
    clear ho hb hg
    go_wp2_with fail
    go_loopw [23] (fun i wr => ∃ k : Nat, k ≤ m.length ∧ i = .int .i64 k ∧ Ob w wr v1 (F.padd l (m.take k)) ∧ Below w.heap.size w wr) (fun i _ => m.length - (intOf i).toNat)
    case atStart => exact ⟨0, by omega, rfl, by rw [List.take_zero, F.padd_nil]; exact hO, hB⟩
    case round =>
      clear hO hB
      obtain ⟨k, hk, rfl, hO, hB⟩ := hrel
      by_cases hlt : k < m.length
      · obtain ⟨ad, rfl, c1⟩ := kb_at (Kd.C_below hs hB) k hlt
        obtain ⟨e1, e2⟩ := F.padd_set l m k hlt (by omega)
        have hlen : k < (F.padd l (m.take k)).length := by rw [F.padd_len]; omega
        obtain ⟨g, cap, rfl, hg1, hg2⟩ := hO.form (by omega)
        obtain ⟨c2, f2⟩ := hO.at k hlen
        obtain ⟨hO', hgr⟩ := hO.set k (l.getD k 0 + m.getD k 0)
        have hB' := hB.grown hgr (by exact hB.size) (fun k hk => by injection hk with hk; omega)
        rw [show (F.padd l (m.take k)).getD k 0 = l.getD k 0 from e1] at c2
        rw [show (F.padd l (m.take k)).set k (l.getD k 0 + m.getD k 0) = _ from e2] at hO'
        rw [show (F.padd l (m.take k)).length = l.length from by rw [F.padd_len, List.length_take]; omega] at hO'
        have HO := Lib.hid hO'
        have HB := Lib.hid hB'
        clear hO' hB' hgr e1 e2
        generalize l.getD k 0 = x at *
        generalize m.getD k 0 = y at *
        rw [show (F.padd l (m.take k)).length = l.length from by rw [F.padd_len, List.length_take]; omega] at hO hlen ⊢
        go_wp2_with fail
        refine (add_c x y _ _ _ rfl rfl).mono ?_
        rintro e w_ ⟨rfl, rfl⟩
        go_wp2
        exact ⟨⟨k + 1, by omega, by go_num, HO.out, HB.out⟩, by simp [intOf]; try omega⟩
      · obtain rfl : k = m.length := by omega
        rw [List.take_length] at hO
        go_wp2
        go_ret
        exact ⟨_, rfl, hO, hB⟩
  · obtain ⟨A, c, rfl, hc, hr⟩ := hv
    obtain ⟨B, d, rfl, hd, hs⟩ := hu
    have hl := kb_len hr
    have hl' := kb_len hs
    have hB := Below.refl w.heap.size w
    go_enter Try.func75, Try.ntmps75
    go_wp2_with (first | ((with_reducible refine gate_dst (N := 17) rfl ?_); refine mk_len kb rfl (N := 17) rfl 40 5 _ _ rfl _ rfl rfl Try.underlying40 (.int .u8 0) 1 infoB rfl Nat.one_pos (by decide) (0 : F) rfl ?h0 ?hl hB ?_; (case h0 => omega); (case hl => omega); intro v1 w1 ho hb hg) | ((with_reducible refine gate_dst (N := 20) rfl ?_); refine halt ?_) | fail)
    refine ⟨?_⟩
    have hO := ho
    have hB := hb
    clear ho hb hg
    rw [Int.toNat_natCast] at hO
    refine Kd.R_copy (0 : F) (enc := bV) (h1 := fun _ => rfl) (w0 := w) w.heap.size rfl (.tmp 18) (.tmp 19) 40 40 5 rfl Try.underlying40 infoC _ _ _ _ _ _ T_ rfl rfl hO (Kd.C_below hr hB) hB (hB).size ?_
    intro w1 ho hb hg
    replace ho : Ob w w1 v1 _ := ho
    rw [copy_all] at ho
    have hO := ho
    have hB := hb
    clear ho hb hg
    go_wp2_with fail
    go_loopw [23] (fun i wr => ∃ k : Nat, k ≤ m.length ∧ i = .int .i64 k ∧ Ob w wr v1 (F.padd l (m.take k)) ∧ Below w.heap.size w wr) (fun i _ => m.length - (intOf i).toNat)
    case atStart => exact ⟨0, by omega, rfl, by rw [List.take_zero, F.padd_nil]; exact hO, hB⟩
    case round =>
      clear hO hB
      obtain ⟨k, hk, rfl, hO, hB⟩ := hrel
      by_cases hlt : k < m.length
      · obtain ⟨ad, rfl, c1⟩ := kb_at (Kd.C_below hs hB) k hlt
        obtain ⟨e1, e2⟩ := F.padd_set l m k hlt (by omega)
        have hlen : k < (F.padd l (m.take k)).length := by rw [F.padd_len]; omega
        obtain ⟨g, cap, rfl, hg1, hg2⟩ := hO.form (by omega)
        obtain ⟨c2, f2⟩ := hO.at k hlen
        obtain ⟨hO', hgr⟩ := hO.set k (l.getD k 0 + m.getD k 0)
        have hB' := hB.grown hgr (by exact hB.size) (fun k hk => by injection hk with hk; omega)
        rw [show (F.padd l (m.take k)).getD k 0 = l.getD k 0 from e1] at c2
        rw [show (F.padd l (m.take k)).set k (l.getD k 0 + m.getD k 0) = _ from e2] at hO'
        rw [show (F.padd l (m.take k)).length = l.length from by rw [F.padd_len, List.length_take]; omega] at hO'
        have HO := Lib.hid hO'
        have HB := Lib.hid hB'
        clear hO' hB' hgr e1 e2
        generalize l.getD k 0 = x at *
        generalize m.getD k 0 = y at *
        rw [show (F.padd l (m.take k)).length = l.length from by rw [F.padd_len, List.length_take]; omega] at hO hlen ⊢
        go_wp2_with fail
        refine (add_c x y _ _ _ rfl rfl).mono ?_
        rintro e w_ ⟨rfl, rfl⟩
        go_wp2
        exact ⟨⟨k + 1, by omega, by go_num, HO.out, HB.out⟩, by simp [intOf]; try omega⟩
      · obtain rfl : k = m.length := by omega
        rw [List.take_length] at hO
        go_wp2
        go_ret
        exact ⟨_, rfl, hO, hB⟩
set_option maxRecDepth 100000 in
set_option maxHeartbeats 1600000 in
theorem pOver_c (b : Nat) (v : Value) (l : List F) (x : F) (w : World) (hF : IsField w b) (hv : Rb w v l) (b1 : l.length ≤ 1000000) :
   Calls Try.prog 77 #[fp b, v, .int .u8 (x.n : Int)] w fun e w' => ∃ z, e = .returned (.tuple #[z, .int .u8 ((F.ev x l).n : Int)]) ∧ Ob w w' z (F.qt x l) ∧ Below w.heap.size w w' := by
  obtain ⟨A, c, rfl, hc, hr⟩ := hv
  have hl := kb_len hr
  have hB := Below.refl w.heap.size w
  by_cases h0 : l.length = 0
  · have : l = [] := List.eq_nil_of_length_eq_zero h0
    subst this
    go_enter Try.func77, Try.ntmps77
    go_wp2
    go_ret2
    exact ⟨_, rfl, Own.nil _ _ _ _, hB⟩
  · obtain ⟨ad, rfl, c0⟩ := kb_at hr (l.length - 1) (by omega)
    have t1 : ((l.length : Int) == 0) = false := beq_eq_false_iff_ne.2 (by omega)
    have hp : 1 ≤ l.length := by omega
    have hdr : Hid (l.getD (l.length - 1) 0 = F.ev x (l.drop (l.length - 1))) := Lib.hid (by
      rw [F.ev_drop x l (l.length - 1), Nat.sub_add_cancel hp, List.drop_length, F.ev_nil, F.zero_mul, F.add_zero])
    rw [hdr.out] at c0
    go_enter Try.func77, Try.ntmps77
    go_wp2_with ((with_reducible refine gate_dst (N := 17) rfl ?_); refine mk_len kb rfl (N := 17) rfl 40 5 _ _ rfl _ rfl rfl Try.underlying40 (.int .u8 0) 1 infoB rfl Nat.one_pos (by decide) (0 : F) rfl ?h0 ?hl hB ?_; (case h0 => omega); (case hl => omega); intro v1 w1 ho hb hg; (have c0 := pw_cell_below hb c0))
    clear hg c0
    have hO := ho
    have hB := hb
    clear ho hb
    rw [show ((l.length : Int) - 1).toNat = l.length - 1 from by omega, ← F.qtTo_start x] at hO
    go_loopw [9, 10] (fun s i wr => ∃ (k : Nat) (z : Int) (y : F), k ≤ l.length - 1 ∧ i = .int .i64 z ∧ z = (k : Int) - 1 ∧ s = .int .u8 (y.n : Int) ∧ Hid (y = F.ev x (l.drop k)) ∧ Ob w wr v1 (F.qtTo x l k) ∧ Below w.heap.size w wr) (fun _ i _ => (intOf i + 1).toNat)
    case atStart => exact ⟨l.length - 1, _, _, by omega, rfl, by omega, rfl, Lib.hid rfl, hO, hB⟩
    case round =>
      clear hO hB
      obtain ⟨k, z, y, hk, rfl, hz, rfl, hy, hO, hB⟩ := hrel
      cases k with
      | zero =>
        obtain rfl : z = -1 := hz
        go_wp2
        go_ret2
        have h1 := hy.out
        rw [List.drop_zero] at h1
        subst h1
        rw [F.qtTo_0] at hO
        exact ⟨_, rfl, hO, hB⟩
      | succ j =>
        obtain rfl : z = (j : Int) := by omega
        clear hz
        obtain ⟨g, cap, rfl, hg1, hg2⟩ := hO.form (by rw [F.qtTo_len]; omega)
        obtain ⟨c2, f2⟩ := hO.at j (by rw [F.qtTo_len]; omega)
        obtain ⟨hO', hgr⟩ := hO.set j y
        have hB' := hB.grown hgr hB.size (fun k hk => by injection hk with hk; omega)
        rw [hy.out, F.qtTo_set x l j (by omega), ← hy.out] at hO'
        rw [F.qtTo_len] at hO' hO ⊢
        have hO := Lib.hid hO'
        have hB := Lib.hid hB'
        obtain ⟨ad', e', c1⟩ := kb_at (Kd.C_below hr hB') j (by omega)
        injection e' with e'
        subst e'
        have hF' := hF.below hB'
        have hlt : (j : Int) < (l.length : Int) - 1 := by omega
        have hi : Hid (l.getD j 0 + y * x = F.ev x (l.drop j)) := Lib.hid (by rw [F.ev_drop x l j, hy.out])
        clear hO' hB' hgr
        generalize l.getD j 0 = a at *
        go_wp2_with fail
        go_quiet ((first | (go_at_call 40; exact qd (mul_c b y x _ (hF'.drewN _) _ _ rfl rfl)) | (go_at_call 39; exact qs (add_c a (y * x) _ _ _ rfl rfl)) | fail))
        go_wp2
        exact ⟨⟨j, _, _, by omega, rfl, by go_num, rfl, hi, hO.out.below (pw_below_drewN (Below.refl _ _) _), pw_below_drewN hB.out _⟩, by simp [intOf]; try omega⟩
set_option maxRecDepth 100000 in
set_option maxHeartbeats 1600000 in
theorem pMul_c (b : Nat) (v u : Value) (l m : List F) (w : World) (hF : IsField w b) (hv : Rb w v l) (hu : Rb w u m) (b1 : l.length ≤ 1000000) (b2 : m.length ≤ 1000000) :
   Calls Try.prog 72 #[fp b, v, u] w fun e w' => ∃ z, e = .returned z ∧ Ob w w' z (F.pmul l m) ∧ Below w.heap.size w w' := by
  obtain ⟨A, c, rfl, hc, hr⟩ := hv
  obtain ⟨B, d, rfl, hd, hs⟩ := hu
  have hl := kb_len hr
  have hl' := kb_len hs
  have hB := Below.refl w.heap.size w
  by_cases h0 : l.length = 0
  · have : l = [] := List.eq_nil_of_length_eq_zero h0
    subst this
    go_enter Try.func72, Try.ntmps72
    go_wp2
    go_ret
    exact ⟨_, rfl, Own.nil _ _ _ _, hB⟩
  by_cases h1 : m.length = 0
  · have : m = [] := List.eq_nil_of_length_eq_zero h1
    subst this
    go_enter Try.func72, Try.ntmps72
    go_wp2
    go_ret
    rw [F.pmul_nil_r]
    exact ⟨_, rfl, Own.nil _ _ _ _, hB⟩
  · have t1 : ((l.length : Int) == 0) = false := beq_eq_false_iff_ne.2 (by omega)
    have t2 : ((m.length : Int) == 0) = false := beq_eq_false_iff_ne.2 (by omega)
    go_enter Try.func72, Try.ntmps72
    go_wp2_with ((with_reducible refine gate_dst (N := 26) rfl ?_); refine mk_len kb rfl (N := 26) rfl 40 5 _ _ rfl _ rfl rfl Try.underlying40 (.int .u8 0) 1 infoB rfl Nat.one_pos (by decide) (0 : F) rfl ?h0 ?hl hB ?_; (case h0 => omega); (case hl => omega); intro v1 w1 ho hb hg)
    have hO := ho
    have hB := hb
    clear ho hb hg
    rw [show ((l.length : Int) + (m.length : Int) - 1).toNat = l.length + m.length - 1 from by omega, ← F.rows_0] at hO
    go_loopw [29] (fun i wr => ∃ k : Nat, k ≤ l.length ∧ i = .int .i64 k ∧ Ob w wr v1 (F.rows l m k 0) ∧ Below w.heap.size w wr) (fun i _ => l.length - (intOf i).toNat)
    case atStart => exact ⟨0, by omega, rfl, hO, hB⟩
    case round =>
      clear hO hB
      obtain ⟨k, hk, rfl, hO, hB⟩ := hrel
      by_cases hlt : k < l.length
      · obtain ⟨ad, rfl, c1⟩ := kb_at (Kd.C_below hr hB) k hlt
        have ha : Hid (l.getD k 0 = F.at_ l k) := Lib.hid rfl
        generalize l.getD k 0 = a at *
        go_wp2_with fail
        go_loopw [36] (fun i wr => ∃ j : Nat, j ≤ m.length ∧ i = .int .i64 j ∧ Ob w wr v1 (F.rows l m k j) ∧ Below w.heap.size w wr) (fun i _ => m.length - (intOf i).toNat)
        case atStart => exact ⟨0, by omega, rfl, hO, hB⟩
        case round =>
          clear hO hB c1
          obtain ⟨j, hj, rfl, hO, hB⟩ := hrel
          by_cases hlt2 : j < m.length
          · obtain ⟨ad', rfl, c1⟩ := kb_at (Kd.C_below hs hB) j hlt2
            have hset : (F.rows l m k j).set (k + j) ((F.rows l m k j).getD (k + j) 0 + F.at_ l k * m.getD j 0) = F.rows l m k (j + 1) := F.rows_set l m k j hlt hlt2
            have hlen : k + j < (F.rows l m k j).length := by rw [F.rows_len]; omega
            obtain ⟨g, cap, rfl, hg1, hg2⟩ := hO.form (by omega)
            obtain ⟨c2, f2⟩ := hO.at (k + j) hlen
            have hF' := hF.below hB
            rw [← ha.out] at hset
            rw [F.rows_len] at hO hlen ⊢
            obtain ⟨q, hq⟩ : ∃ q, q = k + j := ⟨_, rfl⟩
            have u1 : IntKind.i64.wrap ((k : Int) + (j : Int)) = (q : Int) := by rw [wrapI _ (by omega) (by omega)]; omega
            rw [← hq] at c2 f2 hset hlen
            have hset := Lib.hid hset
            clear hq
            generalize l.length + m.length - 1 = LL at *
            generalize (F.rows l m k j).getD q 0 = y at *
            generalize m.getD j 0 = a' at *
            go_wp2_with fail
            have hD : Drawn0 wr wr := Drawn0.refl _
            go_region_law (first
                | (go_simp; go_at_call 40; refine (mul_c b a a' _ (by first | exact hF' | exact hF'.drew | exact hF'.drewN _) _ _ rfl rfl).mono ?_; rintro e w6 ⟨rfl, ⟨n6, rfl⟩⟩)
                | (go_simp; go_at_call 39; refine (add_c y (a * a') _ _ _ rfl rfl).mono ?_; rintro e w7 ⟨rfl, rfl⟩)
                | fail)
            all_goals go_wp2
            all_goals
              have hO1 := hO.below (pw_below_drewN (Below.refl _ _) (1 + n6))
              have hB1 := pw_below_drewN hB (1 + n6)
              obtain ⟨hO2, hgr⟩ := Ob.set hO1 q (y + a * a')
              rw [hset.out] at hO2
              exact ⟨⟨j + 1, by omega, by go_num, hO2, hB1.grown hgr hB1.size (fun k hk => by injection hk with hk; omega)⟩, by simp [intOf]; try omega⟩
          · obtain rfl : j = m.length := by omega
            rw [F.rows_next] at hO
            go_wp2
            exact ⟨⟨k + 1, by omega, by go_num, hO, hB⟩, by simp [intOf]; try omega⟩
      · obtain rfl : k = l.length := by omega
        rw [F.rows_all (fun e => h0 (by rw [e]; rfl)) (fun e => h1 (by rw [e]; rfl))] at hO
        go_wp2
        go_ret
        exact ⟨_, rfl, hO, hB⟩
set_option maxRecDepth 100000 in
set_option maxHeartbeats 1600000 in
theorem pRoot_c (b : Nat) (v : Value) (l : List F) (w : World) (hF : IsField w b) (hv : Rb w v l) (b1 : l.length ≤ 100000) :
   Calls Try.prog 80 #[fp b, v] w fun e w' => ∃ z, e = .returned z ∧ Ob w w' z (F.rt l) ∧ Below w.heap.size w w' := by
  obtain ⟨A, c, rfl, hc, hr⟩ := hv
  have hl := kb_len hr
  have hO := lit_own (w0 := w) (W := w) [1] #[.int .u8 1] rfl 1 rfl (by decide) (Nat.le_refl _)
  have hB := below_alloc (Below.refl w.heap.size w) (.cells #[.int .u8 1] 5)
  go_enter Try.func80, Try.ntmps80
  go_wp2_with fail
  generalize (Value.slice (some ⟨w.heap.size, 0, none⟩) 1 1) = v1 at *
  generalize w.alloc (.cells #[.int .u8 1] 5) = w1 at *
  go_loopw [5, 11] (fun v i wr => ∃ k : Nat, k ≤ l.length ∧ i = .int .i64 k ∧ Ob w wr v (F.rt (l.take k)) ∧ Below w.heap.size w wr) (fun _ i _ => l.length - (intOf i).toNat)
  case atStart => exact ⟨0, by omega, rfl, hO, hB⟩
  case round =>
    clear hO hB
    obtain ⟨k, hk, rfl, hO, hB⟩ := hrel
    by_cases hlt : k < l.length
    · have HS := Lib.hid (congrArg F.rt (take_snoc' l k 0 hlt))
      obtain ⟨ad, rfl, c1⟩ := kb_at (Kd.C_below hr hB) k hlt
      generalize l.getD k 0 = x at *
      have hB1 := below_alloc hB (.cells #[.int .u8 (x.n : Int), .int .u8 1] 5)
      have hF' := hF.below hB1
      have hv := hO.rk.alloc (.cells #[.int .u8 (x.n : Int), .int .u8 1] 5)
      have hu := lit_b wr [x, 1] #[.int .u8 (x.n : Int), .int .u8 1] 5 2 2 rfl rfl (by decide) (by decide)
      have hlen : (F.rt (l.take k)).length ≤ 1000000 := by rw [F.rt_len, List.length_take]; omega
      clear hO hB
      go_wp2_with fail
      refine (pMul_c b _ _ _ _ _ hF' hv hu hlen (by simp)).mono ?_
      rintro e w6 ⟨z, rfl, hz, h6⟩
      rw [← F.rt_snoc, ← HS.out] at hz
      have hz := hz.lower hB1
      have hB := bt_ hB1 h6
      clear hB1 hF' hv hu hlen HS
      go_wp2
      exact ⟨⟨k + 1, by omega, by go_num, hz, hB⟩, by simp [intOf]; try omega⟩
    · obtain rfl : k = l.length := by omega
      rw [List.take_length] at hO
      go_wp2
      go_ret
      exact ⟨_, rfl, hO, hB⟩
end Go.Proofs.Ytijeabhfddaoaaa
