/- The walks of the laws of layer 12 (zero shares): the shares, the sums. -/
import Derived.Test.YtijeabhfddaoaaaZe
import Derived.Test.YtijeabhfddaoaaaRz
import Derived.Test.YtijeabhfddaoaaaK6
namespace Go.Proofs.Ytijeabhfddaoaaa
set_option linter.unusedVariables false
open Go.RowKit Go.Proofs.YtijeabhfddaoaaaW.PrintWords Go.Proofs.Sh

/-- The plan of the examples. -/
def twoPl : Pl := { N := 2, T := 1, L := 1, W := 2, S := 9, R := 1 }
theorem twoPl_ok : twoPl.Ok := ⟨by decide, by decide, by decide, by decide, by decide, by decide, by decide, by decide, by decide⟩
set_option maxRecDepth 100000 in
set_option maxHeartbeats 3200000 in
theorem alive12 (w : World) :
   Calls Try.prog 112 #[] w fun e w' => e = .returned (.bool true) ∧ Below w.heap.size w w' := by
  have E1 : Hid (((allOf twoPl).map point).map (zsh twoPl.T.toNat (F.rt (secretsAt twoPl)) [F.of 5] 1) = [[F.of 10], [F.of 15]]) := Lib.hid (by decide +kernel)
  have E2 : Hid (F.addAll [[F.of 1, F.of 2], [F.of 3]] = [F.of 2]) := Lib.hid (by decide +kernel)
  have HP := Blk.new w #[.int .i64 2, .int .i64 1, .int .i64 1, .int .i64 2, .int .i64 9, .int .i64 1] 33
  have hB := below_alloc (Below.refl w.heap.size w) (.cells #[.int .i64 2, .int .i64 1, .int .i64 1, .int .i64 2, .int .i64 9, .int .i64 1] 33)
  go_enter Try.func112, Try.ntmps112
  go_wp2_with fail
  generalize w.alloc (.cells #[.int .i64 2, .int .i64 1, .int .i64 1, .int .i64 2, .int .i64 9, .int .i64 1] 33) = w1 at *
  obtain ⟨c0, c1, c2, c3, c4, c5⟩ := cells6 HP
  go_upto_region 2 with fail
  go_cut [2, 3] (fun s2 s3 wx => s3 = .int .i64 0 ∧ Obb w wx s2 [[F.of 10], [F.of 15]] ∧ Below w.heap.size w wx)
  case first =>
    go_region_held3 (fun w' => w'.cell? ⟨w.heap.size, 0, none⟩ = some (.int .i64 2) ∧ w'.cell? ⟨w.heap.size, 1, none⟩ = some (.int .i64 1) ∧ w'.cell? ⟨w.heap.size, 2, none⟩ = some (.int .i64 1) ∧ w'.cell? ⟨w.heap.size, 3, none⟩ = some (.int .i64 2) ∧ w'.cell? ⟨w.heap.size, 4, none⟩ = some (.int .i64 9) ∧ w'.cell? ⟨w.heap.size, 5, none⟩ = some (.int .i64 1))
      (go_keep)
      (first
        | (go_at_call 38; refine (new_x _).mono ?_; rintro e w6 ⟨bF, rfl, hF, h6⟩; (first | have hT := (lit_b w1 [F.of 5] #[.int .u8 5] 5 1 1 rfl rfl (by decide) (by decide)).below h6 | have hT := (lit_b w1.drew [F.of 5] #[.int .u8 5] 5 1 1 rfl rfl (by decide) (by decide)).below h6 | skip); (repeat (first | replace h6 := ba h6 | replace h6 := buN h6 | replace h6 := bu h6)); have HP := HP.below h6; have hB := bt_ hB h6; obtain ⟨c0, c1, c2, c3, c4, c5⟩ := cells6 HP)
        | (go_at_call 113; refine (zZero_ok _ twoPl twoPl_ok 1 (by decide) _ [F.of 5] _ (by first | exact hF | exact hF.alloc _ | exact hF.drew) (by first | exact hT | exact lit_b _ [F.of 5] _ _ _ _ rfl rfl (by decide) (by decide)) (by decide)).mono ?_; rintro e w6 ⟨vZ, rfl, sZ, h6⟩; replace sZ := sZ.lower (w0 := w) (by first | exact hB | exact below_alloc hB _ | exact below_drew hB); (repeat (first | replace h6 := ba h6 | replace h6 := buN h6 | replace h6 := bu h6)); have HP := HP.below h6; have hB := bt_ hB h6; obtain ⟨c0, c1, c2, c3, c4, c5⟩ := cells6 HP)
        | fail)
    all_goals
      go_wp2_with fail
      go_meet
      rw [E1.out] at sZ
      exact ⟨rfl, sZ, hB⟩
  case rest =>
    obtain ⟨rfl, hO, hB⟩ := hcut
    clear c0 c1 c2 c3 c4 c5
    obtain ⟨ad, c, u0, u1, rfl, d0, d1, hu0, hu1⟩ := rows_01 hO.rk
    go_wp2_with fail
    refine (rSame_c _ _ [F.of 10] [F.of 10] _ (hu0.alloc _) (lit_b wc [F.of 10] #[.int .u8 10] 5 1 1 rfl rfl (by decide) (by decide))).mono ?_
    rintro e w7 ⟨rfl, h7⟩
    rw [decide_eq_true (rfl : [F.of 10] = [F.of 10])]
    have h7 := bt_ (below_alloc (Below.refl _ _) _) h7.below
    have d1 := pw_cell_below h7 d1
    have hu1 := hu1.below h7
    have hB := bt_ hB h7
    clear h7
    go_wp2_with fail
    refine (rSame_c _ _ [F.of 15] [F.of 15] _ (hu1.alloc _) (lit_b w7 [F.of 15] #[.int .u8 15] 5 1 1 rfl rfl (by decide) (by decide))).mono ?_
    rintro e w8 ⟨rfl, h8⟩
    rw [decide_eq_true (rfl : [F.of 15] = [F.of 15])]
    have h8 := bt_ (below_alloc (Below.refl _ _) _) h8.below
    have hB := bt_ hB h8
    clear h8
    have q1 := (lit_b w8 [F.of 1, F.of 2] #[.int .u8 1, .int .u8 2] 5 2 2 rfl rfl (by decide) (by decide)).alloc (.cells #[.int .u8 3] 5)
    have q2 := lit_b (w8.alloc (.cells #[.int .u8 1, .int .u8 2] 5)) [F.of 3] #[.int .u8 3] 5 1 1 rfl rfl (by decide) (by decide)
    rw [World.size_alloc] at q2
    have q3 := lit_bb2 _ _ _ _ _ 40 q1 q2
    rw [World.size_alloc, World.size_alloc] at q3
    have hb8 := below_alloc (below_alloc (below_alloc (Below.refl w8.heap.size w8) (.cells #[.int .u8 1, .int .u8 2] 5)) (.cells #[.int .u8 3] 5)) (.cells #[.slice (some ⟨w8.heap.size, 0, none⟩) 2 2, .slice (some ⟨w8.heap.size + 1, 0, none⟩) 1 1] 40)
    clear q1 q2
    go_wp2_with fail
    refine (zAdd_c _ _ _ q3 (by decide) (by decide)).mono ?_
    rintro e w9 ⟨vA, rfl, sA, h9⟩
    rw [E2.out] at sA
    have hB := bt_ hB (bt_ hb8 h9)
    replace sA := sA.rk
    clear q3 hb8 h9
    go_wp2_with fail
    refine (rSame_c _ _ [F.of 2] [F.of 2] _ (sA.alloc _) (lit_b w9 [F.of 2] #[.int .u8 2] 5 1 1 rfl rfl (by decide) (by decide))).mono ?_
    rintro e w10 ⟨rfl, h10⟩
    rw [decide_eq_true (rfl : [F.of 2] = [F.of 2])]
    have h10 := bt_ (below_alloc (Below.refl _ _) _) h10.below
    go_wp2
    go_ret
    exact ⟨rfl, bt_ hB h10⟩
theorem addAll_snoc (l : List (List F)) (y : List F) (h : l ≠ []) : F.addAll (l ++ [y]) = F.zadd (F.addAll l) y := by
  cases l with
  | nil => exact absurd rfl h
  | cons a l =>
    show (l ++ [y]).foldl F.zadd a = _
    rw [List.foldl_append]
    rfl
set_option maxRecDepth 100000 in
set_option maxHeartbeats 3200000 in
theorem ZeroAdds_walk (w : World) (v : Value) (l : List (List F)) (hv : Rbb w v l) :
   Calls Try.prog 21 #[v] w fun e w' => e = .returned (.bool true) ∧ Below w.heap.size w w' := by
  have hB := Below.refl w.heap.size w
  obtain ⟨A, c, rfl, hc, hr⟩ := hv
  by_cases g1 : 8 < l.length
  · have t1 : (8 : Int) < (l.length : Int) := by omega
    go_enter Try.func21, Try.ntmps21
    go_wp2_with fail
    refine (alive12 _).mono ?_
    rintro e w9 ⟨rfl, h⟩
    have hB := bt_ hB h
    clear h
    go_wp2
    go_ret
    exact ⟨rfl, hB⟩
  have t1 : decide ((8 : Int) < (l.length : Int)) = false := decide_eq_false (by omega)
  have hv : Rbb w (.slice A l.length c) l := ⟨A, c, rfl, hc, hr⟩
  go_enter Try.func21, Try.ntmps21
  go_wp2
  go_loopw [3, 4, 5, 12] (fun s _ _ i wr => ∃ k : Nat, k ≤ l.length ∧ i = .int .i64 k ∧ Rb wr s (F.addAll (l.take k)) ∧ Hid (∀ r ∈ l.take k, r.length ≤ 100) ∧ Below w.heap.size w wr) (fun _ _ _ i _ => l.length - (intOf i).toNat)
  case atStart => exact ⟨0, by omega, rfl, Rk.nil _ _, Lib.hid (by simp), Below.refl _ _⟩
  case round =>
    clear hB
    obtain ⟨k, hk, rfl, hO, hall, hB⟩ := hrel
    by_cases hlt : k < l.length
    · obtain ⟨ad, u, rfl, d0, hu⟩ := kbb_at hr k hlt
      have d0 := pw_cell_below hB d0
      have hu := hu.below hB
      have hts := take_snoc' l k [] hlt
      obtain ⟨A5, c5, rfl⟩ := rk_form hu
      by_cases hlen : 100 < (l.getD k []).length
      · generalize l.getD k [] = y at *
        have t2 : (100 : Int) < (y.length : Int) := by omega
        clear hts
        go_wp2_with fail
        refine (alive12 _).mono ?_
        rintro e w9 ⟨rfl, h⟩
        have hB := bt_ hB h
        clear h
        go_wp2
        go_ret
        exact ⟨rfl, hB⟩
      · have t2 : decide ((100 : Int) < ((l.getD k []).length : Int)) = false := decide_eq_false (by omega)
        have hall' : Hid (∀ r ∈ l.take (k + 1), r.length ≤ 100) := Lib.hid (by
          rw [hts]
          intro r hr
          rcases List.mem_append.1 hr with h | h
          · exact hall.out r h
          · rw [List.mem_singleton.1 h]; omega)
        by_cases hk0 : k = 0
        · subst hk0
          have HS : Hid (F.addAll (l.take (0 + 1)) = l.getD 0 []) := Lib.hid (by rw [hts]; rfl)
          clear hts
          generalize l.getD 0 [] = y at *
          rw [add_0] at d0
          go_wp2
          exact ⟨⟨1, by omega, rfl, by rw [HS.out]; exact hu, hall', hB⟩, by simp [intOf]; try omega⟩
        · have HS : Hid (F.addAll (l.take (k + 1)) = F.zadd (F.addAll (l.take k)) (l.getD k [])) := Lib.hid (by
            rw [hts]
            exact addAll_snoc _ _ (fun e => by have := congrArg List.length e; rw [List.length_take, List.length_nil] at this; omega))
          have t3 : ((k : Int) == 0) = false := beq_eq_false_iff_ne.2 (by omega)
          have hX : (F.addAll (l.take k)).length ≤ 1000000 := by
            have hne : l.take k ≠ [] := fun e => by have := congrArg List.length e; rw [List.length_take, List.length_nil] at this; omega
            generalize l.take k = L at *
            cases L with
            | nil => exact absurd rfl hne
            | cons a L =>
              have ha : a.length ≤ 100 := hall.out a (List.mem_cons_self ..)
              have hf : ∀ (L : List (List F)) (a : List F), (L.foldl F.zadd a).length ≤ a.length := by
                intro L
                induction L with
                | nil => intro a; exact Nat.le_refl _
                | cons b L ih => intro a; exact Nat.le_trans (ih _) (by rw [F.zadd_len]; omega)
              exact Nat.le_trans (hf L a) (by omega)
          clear hts
          generalize F.addAll (l.take k) = X at *
          generalize l.getD k [] = y at *
          go_wp2_with fail
          refine (rAdd12_c _ _ X y _ hO hu hX).mono ?_
          rintro e w5 ⟨z, rfl, sz, h5⟩
          rw [← HS.out] at sz
          have hB := bt_ hB h5
          go_wp2
          exact ⟨⟨k + 1, by omega, by go_num, sz.rk, hall', hB⟩, by simp [intOf]; try omega⟩
    · obtain rfl : k = l.length := by omega
      rw [List.take_length] at hO hall
      have hv := hv.below hB
      have hall2 := Lib.hid (fun r hr => Nat.le_trans (hall.out r hr) (by decide : 100 ≤ 1000000))
      go_wp2_with fail
      refine (zAdd_c _ l _ hv (by omega) hall2.out).mono ?_
      rintro e w5 ⟨z, rfl, sz, h5⟩
      have hO := hO.below h5
      have hB := bt_ hB h5
      clear h5
      go_wp2_with fail
      refine (rSame_c _ _ _ _ _ sz.rk hO).mono ?_
      rintro e w6 ⟨rfl, h6⟩
      have hB := bd hB h6
      clear h6
      rw [decide_eq_true (rfl : F.addAll l = F.addAll l)]
      go_wp2_with fail
      refine (zAdd_c (.slice none 0 0) [] _ (Rk.nil _ _) (by decide) (by decide)).mono ?_
      rintro e w7 ⟨z2, rfl, sz2, h7⟩
      have hB := bt_ hB h7
      obtain ⟨A7, c7, rfl⟩ := rk_form sz2.rk
      have e7 : (F.addAll []).length = 0 := rfl
      rw [e7]
      clear h7 sz2
      go_wp2_with fail
      refine (alive12 _).mono ?_
      rintro e w9 ⟨rfl, h⟩
      have hB := bt_ hB h
      clear h
      go_wp2
      go_ret
      exact ⟨rfl, hB⟩
/-! ### ZeroShares -/
theorem zsh_share (p : Pl) (T n : Nat) (tape : List F) (x : F) : ((List.range n).map fun j => F.pmul (F.rt (secretsAt p)) (F.tp T tape j)).map (F.ev x) = zsh T (F.rt (secretsAt p)) tape n x := by
  unfold zsh
  rw [List.map_map]
  exact List.map_congr_left fun j _ => F.ev_pmul x _ _
theorem point_at (p : Pl) (k : Nat) (hk : k < ((allOf p).map point).length) : ((allOf p).map point).getD k 0 = point ((k : Int) + 1) := by
  rw [List.length_map, all_len] at hk
  simp [allOf, List.getD_eq_getElem?_getD, hk]
set_option maxRecDepth 100000 in
set_option maxHeartbeats 3200000 in
theorem zeroShares_far (p : Pl) (n : Int) (tv : Value) (tape : List F) (w : World) (ht : Rb w tv tape) (h : ¬ (Lite p ∧ tape.length ≤ 700)) :
   Calls Try.prog 20 #[planV p, .int .i64 n, tv] w fun e w' => e = .returned (.bool true) ∧ Below w.heap.size w w' := by
  by_cases hL : Lite p
  · have hL2 := Lib.hid (decide_eq_true hL)
    have t1 : (700 : Int) < (tape.length : Int) := by
      have : ¬ tape.length ≤ 700 := fun e => h ⟨hL, e⟩
      omega
    clear h
    have HP := Blk.new w (planC p) 33
    have hB := below_alloc (Below.refl w.heap.size w) (.cells (planC p) 33)
    have ht := ht.below hB
    obtain ⟨At, ct, rfl, hct, hct2⟩ := ht
    have ht : Rb _ (.slice At tape.length ct) tape := ⟨At, ct, rfl, hct, hct2⟩
    have hL := hL2
    go_enter Try.func20, Try.ntmps20
    go_wp2_with fail
    generalize w.alloc (.cells (planC p) 33) = w1 at *
    go_wp2_with fail
    refine (light_c p _).mono ?_
    rintro e w2 ⟨rfl, h2⟩
    rw [hL.out]
    have HP := HP.below h2
    have ht := ht.below h2
    have hB := bt_ hB h2
    obtain ⟨c0, c1, c2, c3, c4, c5⟩ := cells6 HP
    clear h2 hct2
    go_wp2_with fail
    refine (alive12 _).mono ?_
    rintro e w9 ⟨rfl, h⟩
    have hB := bt_ hB h
    clear h
    go_wp2
    go_ret
    exact ⟨rfl, hB⟩
  · have hL := Lib.hid (decide_eq_false hL)
    clear h
    have HP := Blk.new w (planC p) 33
    have hB := below_alloc (Below.refl w.heap.size w) (.cells (planC p) 33)
    have ht := ht.below hB
    obtain ⟨At, ct, rfl, hct, hct2⟩ := ht
    have ht : Rb _ (.slice At tape.length ct) tape := ⟨At, ct, rfl, hct, hct2⟩
    go_enter Try.func20, Try.ntmps20
    go_wp2_with fail
    generalize w.alloc (.cells (planC p) 33) = w1 at *
    go_wp2_with fail
    refine (light_c p _).mono ?_
    rintro e w2 ⟨rfl, h2⟩
    rw [hL.out]
    have HP := HP.below h2
    have ht := ht.below h2
    have hB := bt_ hB h2
    obtain ⟨c0, c1, c2, c3, c4, c5⟩ := cells6 HP
    clear h2 hct2
    go_wp2_with fail
    refine (alive12 _).mono ?_
    rintro e w9 ⟨rfl, h⟩
    have hB := bt_ hB h
    clear h
    go_wp2
    go_ret
    exact ⟨rfl, hB⟩
set_option maxRecDepth 100000 in
set_option maxHeartbeats 3200000 in
theorem zeroShares_no (p : Pl) (hi : p.In) (h : ¬ p.Ok) (n : Int) (tv : Value) (tape : List F) (w : World) (ht : Rb w tv tape) (hL : Lite p) (hl : tape.length ≤ 700) :
   Calls Try.prog 20 #[planV p, .int .i64 n, tv] w fun e w' => e = .returned (.bool true) ∧ Below w.heap.size w w' := by
  replace hL := Lib.hid (decide_eq_true hL)
  have t1 : decide ((700 : Int) < (tape.length : Int)) = false := decide_eq_false (by omega)
  have HP := Blk.new w (planC p) 33
  have hB := below_alloc (Below.refl w.heap.size w) (.cells (planC p) 33)
  have ht := ht.below hB
  obtain ⟨At, ct, rfl, hct, hct2⟩ := ht
  have ht : Rb _ (.slice At tape.length ct) tape := ⟨At, ct, rfl, hct, hct2⟩
  go_enter Try.func20, Try.ntmps20
  go_wp2_with fail
  generalize w.alloc (.cells (planC p) 33) = w1 at *
  go_wp2_with fail
  refine (light_c p _).mono ?_
  rintro e w2 ⟨rfl, h2⟩
  rw [hL.out]
  have HP := HP.below h2
  have ht := ht.below h2
  have hB := bt_ hB h2
  obtain ⟨c0, c1, c2, c3, c4, c5⟩ := cells6 HP
  clear h2 hct2
  go_upto_region 3 with fail
  go_cut [7, 8] (fun s7 s8 wx => (s7 = .slice none 0 0 ∧ s8 = .int .i64 1) ∧ Rb wx (.slice At tape.length ct) tape ∧ Blk wx w.heap.size (planC p) 33 ∧ Below w.heap.size w wx)
  case first =>
    go_region_held3 (fun w' => w'.cell? ⟨w.heap.size, 0, none⟩ = some (.int .i64 p.N) ∧ w'.cell? ⟨w.heap.size, 1, none⟩ = some (.int .i64 p.T) ∧ w'.cell? ⟨w.heap.size, 2, none⟩ = some (.int .i64 p.L) ∧ w'.cell? ⟨w.heap.size, 3, none⟩ = some (.int .i64 p.W) ∧ w'.cell? ⟨w.heap.size, 4, none⟩ = some (.int .i64 p.S) ∧ w'.cell? ⟨w.heap.size, 5, none⟩ = some (.int .i64 p.R))
      (go_keep)
      (first
        | (go_at_call 38; refine (new_x _).mono ?_; rintro e w6 ⟨bF, rfl, hF, h6⟩; (repeat (first | replace h6 := ba h6 | replace h6 := buN h6 | replace h6 := bu h6)); have HP := HP.below h6; have hB := bt_ hB h6; obtain ⟨c0, c1, c2, c3, c4, c5⟩ := cells6 HP; have ht := ht.below h6)
        | (go_at_call 113; refine (zZero_no _ p h n _ tape _ (by first | exact ht | exact ht.drew)).mono ?_; rintro e w6 ⟨rfl, h6⟩; skip; (repeat (first | replace h6 := ba h6 | replace h6 := buN h6 | replace h6 := bu h6)); have HP := HP.below h6; have hB := bt_ hB h6; obtain ⟨c0, c1, c2, c3, c4, c5⟩ := cells6 HP; have ht := ht.below h6)
        | fail)
    all_goals
      go_wp2_with fail
      go_meet
      exact ⟨⟨rfl, rfl⟩, ht, HP, hB⟩
  case rest =>
    clear c0 c1 c2 c3 c4 c5
    obtain ⟨⟨rfl, rfl⟩, ht, HP, hB⟩ := hcut
    obtain ⟨c0, c1, c2, c3, c4, c5⟩ := cells6 HP
    go_wp2_with fail
    refine (rCheck12_no p hi h n _ _).mono ?_
    rintro e w6 ⟨rfl, h6⟩
    have HP := HP.below h6
    have hB := bt_ hB h6
    obtain ⟨c0, c1, c2, c3, c4, c5⟩ := cells6 HP
    go_wp2_with fail
    refine (zCost_no p h n _).mono ?_
    rintro e w7 ⟨rfl, h7⟩
    have hB := bt_ hB h7
    go_wp2_with fail
    refine (alive12 _).mono ?_
    rintro e w9 ⟨rfl, h⟩
    have hB := bt_ hB h
    clear h
    go_wp2
    go_ret
    exact ⟨rfl, hB⟩
set_option maxRecDepth 100000 in
set_option maxHeartbeats 3200000 in
theorem zeroShares_few (p : Pl) (h : p.Ok) (n : Int) (hn : ¬ (0 ≤ n ∧ n ≤ 240)) (tv : Value) (tape : List F) (w : World) (ht : Rb w tv tape) (hL : Lite p) (hl : tape.length ≤ 700) :
   Calls Try.prog 20 #[planV p, .int .i64 n, tv] w fun e w' => e = .returned (.bool true) ∧ Below w.heap.size w w' := by
  replace hL := Lib.hid (decide_eq_true hL)
  have t1 : decide ((700 : Int) < (tape.length : Int)) = false := decide_eq_false (by omega)
  replace hn := Lib.hid hn
  have HP := Blk.new w (planC p) 33
  have hB := below_alloc (Below.refl w.heap.size w) (.cells (planC p) 33)
  have ht := ht.below hB
  obtain ⟨At, ct, rfl, hct, hct2⟩ := ht
  have ht : Rb _ (.slice At tape.length ct) tape := ⟨At, ct, rfl, hct, hct2⟩
  go_enter Try.func20, Try.ntmps20
  go_wp2_with fail
  generalize w.alloc (.cells (planC p) 33) = w1 at *
  go_wp2_with fail
  refine (light_c p _).mono ?_
  rintro e w2 ⟨rfl, h2⟩
  rw [hL.out]
  have HP := HP.below h2
  have ht := ht.below h2
  have hB := bt_ hB h2
  obtain ⟨c0, c1, c2, c3, c4, c5⟩ := cells6 HP
  clear h2 hct2
  go_upto_region 3 with fail
  go_cut [7, 8] (fun s7 s8 wx => (s7 = .slice none 0 0 ∧ s8 = .int .i64 2) ∧ Rb wx (.slice At tape.length ct) tape ∧ Blk wx w.heap.size (planC p) 33 ∧ Below w.heap.size w wx)
  case first =>
    go_region_held3 (fun w' => w'.cell? ⟨w.heap.size, 0, none⟩ = some (.int .i64 p.N) ∧ w'.cell? ⟨w.heap.size, 1, none⟩ = some (.int .i64 p.T) ∧ w'.cell? ⟨w.heap.size, 2, none⟩ = some (.int .i64 p.L) ∧ w'.cell? ⟨w.heap.size, 3, none⟩ = some (.int .i64 p.W) ∧ w'.cell? ⟨w.heap.size, 4, none⟩ = some (.int .i64 p.S) ∧ w'.cell? ⟨w.heap.size, 5, none⟩ = some (.int .i64 p.R))
      (go_keep)
      (first
        | (go_at_call 38; refine (new_x _).mono ?_; rintro e w6 ⟨bF, rfl, hF, h6⟩; (repeat (first | replace h6 := ba h6 | replace h6 := buN h6 | replace h6 := bu h6)); have HP := HP.below h6; have hB := bt_ hB h6; obtain ⟨c0, c1, c2, c3, c4, c5⟩ := cells6 HP; have ht := ht.below h6)
        | (go_at_call 113; refine (zZero_few _ p h n hn.out _ tape _ (by first | exact ht | exact ht.drew)).mono ?_; rintro e w6 ⟨rfl, h6⟩; skip; (repeat (first | replace h6 := ba h6 | replace h6 := buN h6 | replace h6 := bu h6)); have HP := HP.below h6; have hB := bt_ hB h6; obtain ⟨c0, c1, c2, c3, c4, c5⟩ := cells6 HP; have ht := ht.below h6)
        | fail)
    all_goals
      go_wp2_with fail
      go_meet
      exact ⟨⟨rfl, rfl⟩, ht, HP, hB⟩
  case rest =>
    clear c0 c1 c2 c3 c4 c5
    obtain ⟨⟨rfl, rfl⟩, ht, HP, hB⟩ := hcut
    obtain ⟨c0, c1, c2, c3, c4, c5⟩ := cells6 HP
    go_wp2_with fail
    refine (rCheck12_few p h n hn.out _ _).mono ?_
    rintro e w6 ⟨rfl, h6⟩
    have HP := HP.below h6
    have hB := bt_ hB h6
    obtain ⟨c0, c1, c2, c3, c4, c5⟩ := cells6 HP
    go_wp2_with fail
    refine (zCost_few p h n hn.out _).mono ?_
    rintro e w7 ⟨rfl, h7⟩
    have hB := bt_ hB h7
    go_wp2_with fail
    refine (alive12 _).mono ?_
    rintro e w9 ⟨rfl, h⟩
    have hB := bt_ hB h
    clear h
    go_wp2
    go_ret
    exact ⟨rfl, hB⟩
set_option maxRecDepth 100000 in
set_option maxHeartbeats 3200000 in
theorem zeroShares_short (p : Pl) (h : p.Ok) (n : Nat) (hn : (n : Int) ≤ 240) (tv : Value) (tape : List F) (w : World) (ht : Rb w tv tape) (hL : Lite p) (hl : tape.length ≤ 700) (hs : (tape.length : Int) < p.T * n) :
   Calls Try.prog 20 #[planV p, .int .i64 n, tv] w fun e w' => e = .returned (.bool true) ∧ Below w.heap.size w w' := by
  replace hL := Lib.hid (decide_eq_true hL)
  have t1 : decide ((700 : Int) < (tape.length : Int)) = false := decide_eq_false (by omega)
  have hn0 : 0 ≤ (n : Int) := by omega
  replace hs := Lib.hid hs
  have HP := Blk.new w (planC p) 33
  have hB := below_alloc (Below.refl w.heap.size w) (.cells (planC p) 33)
  have ht := ht.below hB
  obtain ⟨At, ct, rfl, hct, hct2⟩ := ht
  have ht : Rb _ (.slice At tape.length ct) tape := ⟨At, ct, rfl, hct, hct2⟩
  go_enter Try.func20, Try.ntmps20
  go_wp2_with fail
  generalize w.alloc (.cells (planC p) 33) = w1 at *
  go_wp2_with fail
  refine (light_c p _).mono ?_
  rintro e w2 ⟨rfl, h2⟩
  rw [hL.out]
  have HP := HP.below h2
  have ht := ht.below h2
  have hB := bt_ hB h2
  obtain ⟨c0, c1, c2, c3, c4, c5⟩ := cells6 HP
  clear h2 hct2
  go_upto_region 3 with fail
  go_cut [7, 8] (fun s7 s8 wx => (s7 = .slice none 0 0 ∧ s8 = .int .i64 12) ∧ Rb wx (.slice At tape.length ct) tape ∧ Blk wx w.heap.size (planC p) 33 ∧ Below w.heap.size w wx)
  case first =>
    go_region_held3 (fun w' => w'.cell? ⟨w.heap.size, 0, none⟩ = some (.int .i64 p.N) ∧ w'.cell? ⟨w.heap.size, 1, none⟩ = some (.int .i64 p.T) ∧ w'.cell? ⟨w.heap.size, 2, none⟩ = some (.int .i64 p.L) ∧ w'.cell? ⟨w.heap.size, 3, none⟩ = some (.int .i64 p.W) ∧ w'.cell? ⟨w.heap.size, 4, none⟩ = some (.int .i64 p.S) ∧ w'.cell? ⟨w.heap.size, 5, none⟩ = some (.int .i64 p.R))
      (go_keep)
      (first
        | (go_at_call 38; refine (new_x _).mono ?_; rintro e w6 ⟨bF, rfl, hF, h6⟩; (repeat (first | replace h6 := ba h6 | replace h6 := buN h6 | replace h6 := bu h6)); have HP := HP.below h6; have hB := bt_ hB h6; obtain ⟨c0, c1, c2, c3, c4, c5⟩ := cells6 HP; have ht := ht.below h6)
        | (go_at_call 113; refine (zZero_short _ p h n hn0 hn _ tape _ (by first | exact ht | exact ht.drew) hs.out).mono ?_; rintro e w6 ⟨rfl, h6⟩; skip; (repeat (first | replace h6 := ba h6 | replace h6 := buN h6 | replace h6 := bu h6)); have HP := HP.below h6; have hB := bt_ hB h6; obtain ⟨c0, c1, c2, c3, c4, c5⟩ := cells6 HP; have ht := ht.below h6)
        | fail)
    all_goals
      go_wp2_with fail
      go_meet
      exact ⟨⟨rfl, rfl⟩, ht, HP, hB⟩
  case rest =>
    clear c0 c1 c2 c3 c4 c5
    obtain ⟨⟨rfl, rfl⟩, ht, HP, hB⟩ := hcut
    obtain ⟨c0, c1, c2, c3, c4, c5⟩ := cells6 HP
    go_wp2_with fail
    refine (rCheck12_short p h n hn _ tape _ ht hs.out).mono ?_
    rintro e w6 ⟨rfl, h6⟩
    have hB := bt_ hB h6
    go_wp2_with fail
    refine (alive12 _).mono ?_
    rintro e w9 ⟨rfl, h⟩
    have hB := bt_ hB h
    clear h
    go_wp2
    go_ret
    exact ⟨rfl, hB⟩
set_option maxRecDepth 100000 in
set_option maxHeartbeats 6400000 in
theorem zeroShares_ok (p : Pl) (h : p.Ok) (n : Nat) (hn : (n : Int) ≤ 240) (tv : Value) (tape : List F) (w : World) (ht : Rb w tv tape) (hL : Lite p) (hl : tape.length ≤ 700) (hs : p.T * n ≤ (tape.length : Int)) :
   Calls Try.prog 20 #[planV p, .int .i64 n, tv] w fun e w' => e = .returned (.bool true) ∧ Below w.heap.size w w' := by
  have hN := Lib.hid hL.1
  replace hL := Lib.hid (decide_eq_true hL)
  have t1 : decide ((700 : Int) < (tape.length : Int)) = false := decide_eq_false (by omega)
  have hn0 : 0 ≤ (n : Int) := by omega
  have eT : Hid (p.T = (p.T.toNat : Int) ∧ p.T.toNat * n ≤ tape.length) := Lib.hid (by
    have h1 := h.t
    have e0 : (p.T.toNat : Int) = p.T := by omega
    have e := Int.natCast_mul p.T.toNat n
    rw [e0] at e
    exact ⟨by omega, by omega⟩)
  have hnp : 0 ≤ p.N := by have := h.t; have := h.l; have := h.tl; have := h.wn; omega
  have m0 : p.T * n ≤ 256 * 240 := Int.mul_le_mul (by have := h.t; have := h.tl; have := h.wn; have := h.nl; have := h.l; omega) hn (by omega) (by omega)
  have m1 : 0 ≤ p.T * n := Int.mul_nonneg (by have := h.t; omega) (by omega)
  have m2 : IntKind.i64.wrap (p.T * n) = p.T * n := wrapI _ (by omega) (by omega)
  replace hs := Lib.hid hs
  have HP := Blk.new w (planC p) 33
  have hB := below_alloc (Below.refl w.heap.size w) (.cells (planC p) 33)
  have ht := ht.below hB
  obtain ⟨At, ct, rfl, hct, hct2⟩ := ht
  have ht : Rb _ (.slice At tape.length ct) tape := ⟨At, ct, rfl, hct, hct2⟩
  go_enter Try.func20, Try.ntmps20
  go_wp2_with fail
  generalize w.alloc (.cells (planC p) 33) = w1 at *
  go_wp2_with fail
  refine (light_c p _).mono ?_
  rintro e w2 ⟨rfl, h2⟩
  rw [hL.out]
  have HP := HP.below h2
  have ht := ht.below h2
  have hB := bt_ hB h2
  obtain ⟨c0, c1, c2, c3, c4, c5⟩ := cells6 HP
  clear h2 hct2
  go_upto_region 3 with fail
  go_cut [7, 8] (fun s7 s8 wx => (Obb w wx s7 (((allOf p).map point).map (zsh p.T.toNat (F.rt (secretsAt p)) tape n)) ∧ s8 = .int .i64 0) ∧ Rb wx (.slice At tape.length ct) tape ∧ Blk wx w.heap.size (planC p) 33 ∧ Below w.heap.size w wx)
  case first =>
    go_region_held3 (fun w' => w'.cell? ⟨w.heap.size, 0, none⟩ = some (.int .i64 p.N) ∧ w'.cell? ⟨w.heap.size, 1, none⟩ = some (.int .i64 p.T) ∧ w'.cell? ⟨w.heap.size, 2, none⟩ = some (.int .i64 p.L) ∧ w'.cell? ⟨w.heap.size, 3, none⟩ = some (.int .i64 p.W) ∧ w'.cell? ⟨w.heap.size, 4, none⟩ = some (.int .i64 p.S) ∧ w'.cell? ⟨w.heap.size, 5, none⟩ = some (.int .i64 p.R))
      (go_keep)
      (first
        | (go_at_call 38; refine (new_x _).mono ?_; rintro e w6 ⟨bF, rfl, hF, h6⟩; (repeat (first | replace h6 := ba h6 | replace h6 := buN h6 | replace h6 := bu h6)); have HP := HP.below h6; have hB := bt_ hB h6; obtain ⟨c0, c1, c2, c3, c4, c5⟩ := cells6 HP; have ht := ht.below h6)
        | (go_at_call 113; refine (zZero_ok _ p h n hn _ tape _ (by first | exact hF | exact hF.drew) (by first | exact ht | exact ht.drew) hs.out).mono ?_; rintro e w6 ⟨vZ, rfl, sZ, h6⟩; replace sZ := sZ.lower (w0 := w) (by first | exact hB | exact below_drew hB); (repeat (first | replace h6 := ba h6 | replace h6 := buN h6 | replace h6 := bu h6)); have HP := HP.below h6; have hB := bt_ hB h6; obtain ⟨c0, c1, c2, c3, c4, c5⟩ := cells6 HP; have ht := ht.below h6)
        | fail)
    all_goals
      go_wp2_with fail
      go_meet
      exact ⟨⟨sZ, rfl⟩, ht, HP, hB⟩
  case rest =>
    clear c0 c1 c2 c3 c4 c5
    obtain ⟨⟨hO, rfl⟩, ht, HP, hB⟩ := hcut
    obtain ⟨c0, c1, c2, c3, c4, c5⟩ := cells6 HP
    go_wp2_with fail
    refine (rCheck12_ok p h n hn _ tape _ ht hs.out).mono ?_
    rintro e w6 ⟨rfl, h6⟩
    have HP := HP.below h6
    have hB := bt_ hB h6
    have ht := ht.below h6
    have hO := hO.rk.below h6
    obtain ⟨c0, c1, c2, c3, c4, c5⟩ := cells6 HP
    clear h6
    obtain ⟨N, eN⟩ : ∃ N : Nat, p.N = N := ⟨p.N.toNat, by omega⟩
    have hlen : Hid ((((allOf p).map point).map (zsh p.T.toNat (F.rt (secretsAt p)) tape n)).length = N) := Lib.hid (by rw [List.length_map, List.length_map, all_len]; omega)
    have t5 : ((N : Int) != p.N) = false := by rw [eN]; simp
    replace eN := Lib.hid eN
    obtain ⟨A8, c8, rfl⟩ := rk_form hO
    rw [hlen.out] at hO ⊢
    go_wp2_with fail
    go_region_held3 (fun w' => w'.cell? ⟨w.heap.size, 0, none⟩ = some (.int .i64 p.N) ∧ w'.cell? ⟨w.heap.size, 1, none⟩ = some (.int .i64 p.T) ∧ w'.cell? ⟨w.heap.size, 2, none⟩ = some (.int .i64 p.L) ∧ w'.cell? ⟨w.heap.size, 3, none⟩ = some (.int .i64 p.W) ∧ w'.cell? ⟨w.heap.size, 4, none⟩ = some (.int .i64 p.S) ∧ w'.cell? ⟨w.heap.size, 5, none⟩ = some (.int .i64 p.R))
      (go_keep)
      (first
        | (go_at_call 115; refine (zCost_ok p h n hn0 hn _).mono ?_; rintro e w6 ⟨rfl, h6⟩; (repeat (first | replace h6 := ba h6 | replace h6 := buN h6 | replace h6 := bu h6)); have HP := HP.below h6; have hB := bt_ hB h6; obtain ⟨c0, c1, c2, c3, c4, c5⟩ := cells6 HP; have ht := ht.below h6; have hO := hO.below h6)
        | fail)
    have hB := Lib.hid hB
    go_wp2_with fail
    refine (rPolys12_c p h n p.T.toNat eT.out.1 (by omega) _ tape _ ht eT.out.2).mono ?_
    rintro e w7 ⟨z, rfl, sz, h7⟩
    have hO := hO.below h7
    have hB := bt_ hB.out h7
    have sz := sz.rk
    clear h7 ht HP c0 c1 c2 c3 c4 c5
    go_wp2_with fail
    go_loopw [11, 81] (fun _ i wr => ∃ k : Nat, k ≤ N ∧ i = .int .i64 k ∧ Below w7.heap.size w7 wr ∧ Below w.heap.size w wr) (fun _ i _ => N - (intOf i).toNat)
    case atStart => exact ⟨0, by omega, rfl, Below.refl _ _, hB⟩
    case round =>
      clear hB
      obtain ⟨k, hk, rfl, hB7, hB⟩ := hrel
      by_cases hlt : k < N
      · obtain ⟨ad, u, rfl, d0, hu⟩ := kbb_at (rk_C hO) k (by rw [hlen.out]; exact hlt)
        have hd0 := Lib.hid d0
        have d0 := pw_cell_below hB7 d0
        have hu := hu.below hB7
        have sz := sz.below hB7
        have n3 : IntKind.i64.wrap ((k : Int) + 1) = k + 1 := wrapI _ (by omega) (by have := hN.out; have := eN.out; omega)
        have hrow : Hid ((((allOf p).map point).map (zsh p.T.toNat (F.rt (secretsAt p)) tape n)).getD k [] = ((List.range n).map fun j => F.pmul (F.rt (secretsAt p)) (F.tp p.T.toNat tape j)).map (F.ev (point ((k : Int) + 1)))) := Lib.hid (by
          have h1 := hlen.out
          rw [List.length_map] at h1
          rw [zsh_share, ← point_at p k (by omega)]
          simp [List.getD_eq_getElem?_getD, show k < (allOf p).length by rw [List.length_map] at h1; omega])
        have hpl : Hid (((List.range n).map fun j => F.pmul (F.rt (secretsAt p)) (F.tp p.T.toNat tape j)).length ≤ 1000000) := Lib.hid (by rw [List.length_map, List.length_range]; omega)
        rw [hrow.out] at hu
        generalize ((List.range n).map fun j => F.pmul (F.rt (secretsAt p)) (F.tp p.T.toNat tape j)) = ps at *
        go_wp2_with fail
        go_region_held3 (fun w' => w'.cell? (ad.add k) = some u)
          (go_keep)
          (first
            | (go_at_call 100; refine (rShare_c _ ps ((k : Int) + 1) _ (by first | exact sz | exact sz.drew) hpl.out).mono ?_; rintro e w6 ⟨vS, rfl, sS, h6⟩; replace sS := sS.rk; (repeat (first | replace h6 := buN h6 | replace h6 := bu h6)); have d0 := pw_cell_below h6 d0; have hu := hu.below h6; have hB7 := bt_ hB7 h6; have hB := bt_ hB h6)
            | (go_at_call 60; refine (rSame_c _ _ _ _ _ (by first | exact hu | exact hu.drew) (by first | exact sS | exact sS.drew)).mono ?_; rintro e w6 ⟨rfl, h6⟩; replace h6 := h6.below; (repeat (first | replace h6 := buN h6 | replace h6 := bu h6)); have d0 := pw_cell_below h6 d0; have hB7 := bt_ hB7 h6; have hB := bt_ hB h6)
            | fail)
        go_wp2
        exact ⟨⟨k + 1, by omega, by go_num, hB7, hB⟩, by simp [intOf]; try omega⟩
      · obtain rfl : k = N := by omega
        go_wp2_with fail
        refine (alive12 _).mono ?_
        rintro e w9 ⟨rfl, h⟩
        have hB := bt_ hB h
        clear h
        go_wp2
        go_ret
        exact ⟨rfl, hB⟩
set_option maxRecDepth 100000 in
theorem ZeroShares_walk (w : World) (N : Int) (hN : -9223372036854775808 ≤ N ∧ N ≤ 9223372036854775807) (T : Int) (hT : -9223372036854775808 ≤ T ∧ T ≤ 9223372036854775807) (L : Int) (hL : -9223372036854775808 ≤ L ∧ L ≤ 9223372036854775807) (W : Int) (hW : -9223372036854775808 ≤ W ∧ W ≤ 9223372036854775807) (S : Int) (hS : -9223372036854775808 ≤ S ∧ S ≤ 9223372036854775807) (R : Int) (hR : -9223372036854775808 ≤ R ∧ R ≤ 9223372036854775807) (n : Int) (hn : -9223372036854775808 ≤ n ∧ n ≤ 9223372036854775807) (v : Value) (l : List F) (hv : Rb w v l) :
   Calls Try.prog 20 #[.agg #[.int .i64 N, .int .i64 T, .int .i64 L, .int .i64 W, .int .i64 S, .int .i64 R], .int .i64 n, v] w fun e w' => e = .returned (.bool true) ∧ Below w.heap.size w w' := by
  by_cases hf : Lite ⟨N, T, L, W, S, R⟩ ∧ l.length ≤ 700
  · by_cases h : (Pl.mk N T L W S R).Ok
    · by_cases hs : 0 ≤ n ∧ n ≤ 240
      · obtain ⟨k, rfl⟩ := Int.eq_ofNat_of_zero_le hs.1
        by_cases hl : (l.length : Int) < T * k
        · exact zeroShares_short _ h k hs.2 v l w hv hf.1 hf.2 hl
        · exact zeroShares_ok _ h k hs.2 v l w hv hf.1 hf.2 (by show T * k ≤ _; omega)
      · exact zeroShares_few _ h n hs v l w hv hf.1 hf.2
    · exact zeroShares_no _ ⟨hN, hT, hL, hW, hS, hR⟩ h n v l w hv hf.1 hf.2
  · exact zeroShares_far ⟨N, T, L, W, S, R⟩ n v l w hv hf
end Go.Proofs.Ytijeabhfddaoaaa
