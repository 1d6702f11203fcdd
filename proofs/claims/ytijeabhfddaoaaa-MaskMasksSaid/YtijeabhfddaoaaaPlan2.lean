/- The walks of package plan, the rest: points, stripes, who is a custodian. -/
import Derived.Test.YtijeabhfddaoaaaPlan
namespace Go.Proofs.Ytijeabhfddaoaaa
set_option linter.unusedVariables false
open Go.RowKit Go.Proofs.YtijeabhfddaoaaaW.PrintWords Go.Proofs.Sh
theorem ki_at {w : World} {k : IntKind} {A : Option Addr} {n : Nat} {l : List Int} (h : (Kd.int k).C w A n l) (j : Nat) (hj : j < n) : ∃ ad, A = some ad ∧ w.cell? (ad.add j) = some (.int k (l.getD j 0)) := by
  obtain ⟨ad, e, hc⟩ := Kd.at_int h (j : Int) (by omega) (by omega)
  rw [Int.toNat_natCast] at hc
  exact ⟨ad, e, hc⟩
theorem take_snoc {α : Type} (l : List α) (k : Nat) (z : α) (h : k < l.length) : l.take (k + 1) = l.take k ++ [l.getD k z] := by
  rw [List.take_succ_eq_append_getElem h]
  simp [List.getD_eq_getElem?_getD, h]
set_option maxRecDepth 100000 in
set_option maxHeartbeats 1600000 in
theorem points_c (v : Value) (l : List Int) (w : World) (hv : Ri w v l) (hl : l.length < 1000000) :
   Calls Try.prog 54 #[v] w fun e w' => ∃ v, e = .returned v ∧ (Ob w w' v (l.map point) ∧ Below w.heap.size w w') := by
  obtain ⟨A, c, rfl, hc, hr⟩ := hv
  go_enter Try.func54, Try.ntmps54
  go_wp2_with ((with_reducible refine gate_dst (N := 8) rfl ?_); refine mk_cap kb rfl 40 5 _ _ rfl .i64 _ rfl rfl Try.underlying40 (.int .u8 0) 1 infoB (by decide) ?h0 ?hl (Below.refl _ _) ?_; (case h0 => omega); (case hl => omega); intro v1 w1 ho hb hg)
  have hO := ho
  have hB := hb
  clear ho hb hg
  go_loopw [3, 11] (fun v i wr => ∃ k : Nat, k ≤ l.length ∧ i = .int .i64 k ∧ Ob w wr v ((l.take k).map point) ∧ Below w.heap.size w wr) (fun _ i _ => l.length - (intOf i).toNat)
  case atStart => exact ⟨0, by omega, rfl, hO, hB⟩
  case round =>
    clear hO hB
    obtain ⟨k, hk, rfl, hO, hB⟩ := hrel
    by_cases hlt : k < l.length
    · have HS := Lib.hid (congrArg (List.map point) (take_snoc l k 0 hlt))
      obtain ⟨ad, rfl, c1⟩ := ki_at (Kd.C_below hr hB) k hlt
      generalize l.getD k 0 = x at *
      go_wp2_with fail
      refine (point_c x _).mono ?_
      rintro e w_ ⟨rfl, rfl⟩
      go_wp2_with (at_builtin; refine app_one (enc := bV) rfl (.tmp 15) (.tmp 18) 40 5 (.int .u8 0) 1 rfl Try.underlying40 infoB rfl (by decide) _ _ (point x) rfl rfl _ (bV_eq ?hc) hO hB ?hl ?_; (case hc => (first | exact rfl | exact rfl)); (case hl => (first | (simp; omega) | omega)); intro v1 w1 ho hb hg)
      exact ⟨⟨k + 1, by omega, by go_num, by rw [HS.out, List.map_append]; exact ho, hb⟩, by simp [intOf]; omega⟩
    · obtain rfl : k = l.length := by omega
      rw [List.take_length] at hO
      go_wp2
      go_ret
      exact ⟨_, rfl, hO, hB⟩
set_option maxRecDepth 100000 in
set_option maxHeartbeats 1600000 in
theorem is_no (p : Pl) (h : ¬ p.Ok) (i : Int) (w : World) :
   Calls Try.prog 62 #[planV p, .int .i64 i] w fun e w' => e = .returned (.bool false) ∧ Below w.heap.size w w' := by
  go_enter Try.func62, Try.ntmps62
  go_wp2_with fail
  refine (right_no p h _).mono ?_
  rintro e w1 ⟨rfl, hb⟩
  go_wp2
  go_ret
  exact ⟨rfl, bt_ (below_alloc (Below.refl _ _) _) hb⟩
set_option maxRecDepth 100000 in
set_option maxHeartbeats 1600000 in
theorem is_yes (p : Pl) (h : p.Ok) (i : Int) (w : World) :
   Calls Try.prog 62 #[planV p, .int .i64 i] w fun e w' => e = .returned (.bool (decide (1 ≤ i ∧ i ≤ p.N))) ∧ Below w.heap.size w w' := by
  have c0 := (isPlan_alloc w p 33).n
  by_cases hi : 1 ≤ i ∧ i ≤ p.N
  · have hd := Lib.hid (decide_eq_true hi)
    obtain ⟨h1, h2⟩ := hi
    go_enter Try.func62, Try.ntmps62
    go_wp2_with fail
    refine (right_yes p h _).mono ?_
    rintro e w1 ⟨rfl, hb⟩
    have c0 := pw_cell_below hb c0
    go_wp2_with fail
    refine (in_yes _ _ _ h1 h2 _).mono ?_
    rintro e w_ ⟨rfl, rfl⟩
    go_wp2
    go_ret
    rw [hd.out]
    exact ⟨rfl, bt_ (below_alloc (Below.refl _ _) _) hb⟩
  · have hd := Lib.hid (decide_eq_false hi)
    have H9 : Hid (i < 1 ∨ p.N < i) := Lib.hid (by omega)
    clear hi
    go_enter Try.func62, Try.ntmps62
    go_wp2_with fail
    refine (right_yes p h _).mono ?_
    rintro e w1 ⟨rfl, hb⟩
    have c0 := pw_cell_below hb c0
    go_wp2_with fail
    refine (in_no _ _ _ H9.out _).mono ?_
    rintro e w_ ⟨rfl, rfl⟩
    go_wp2
    go_ret
    rw [hd.out]
    exact ⟨rfl, bt_ (below_alloc (Below.refl _ _) _) hb⟩
set_option maxRecDepth 100000 in
set_option maxHeartbeats 1600000 in
theorem stripesClos (p : Pl) (h : p.Ok) (n : Int) (hn1 : 1 ≤ n) (hn2 : n ≤ 240) (b c : Nat) (w : World) (hp : IsPlan w b p) (hc : w.cell? ⟨c, 0, none⟩ = some (.int .i64 n)) :
   Calls Try.prog 163 #[.pointer (some ⟨c, 0, none⟩), .pointer (some ⟨b, 0, none⟩)] w fun e w' => ∃ v, e = .returned v ∧ (v = .int .i64 ((n + p.L - 1) / p.L) ∧ Below w.heap.size w w') := by
  obtain ⟨c1, c2, c3, c4, c5, c6⟩ := hp
  obtain ⟨a1, a2, a3, a4, a5, a6, a7, a8, a9⟩ := h
  have hL : ¬ p.L = 0 := by omega
  have hq1 : 0 ≤ (n + p.L - 1) / p.L := Int.ediv_nonneg (by omega) (by omega)
  have hq2 : (n + p.L - 1) / p.L ≤ n + p.L - 1 := Int.ediv_le_self _ (by omega)
  have hq3 : (n + p.L - 1) / p.L ≤ 600 := by omega
  go_enter Try.func163, Try.ntmps163
  go_wp2
  go_ret
  exact ⟨_, rfl, rfl, Below.refl _ _⟩
set_option maxRecDepth 100000 in
set_option maxHeartbeats 1600000 in
theorem stripes_yes (p : Pl) (h : p.Ok) (n : Int) (w : World) :
   Calls Try.prog 65 #[planV p, .int .i64 n] w fun e w' => e = .returned (.int .i64 (stripesOf p n)) ∧ Below w.heap.size w w' := by
  by_cases hn : 1 ≤ n ∧ n ≤ 240
  · have hs : Hid (stripesOf p n = (n + p.L - 1) / p.L) := Lib.hid (by unfold stripesOf; rw [if_pos hn])
    obtain ⟨h1, h2⟩ := hn
    go_enter Try.func65, Try.ntmps65
    go_wp2_with fail
    refine (in_yes _ _ _ h1 h2 _).mono ?_
    rintro e w_ ⟨rfl, rfl⟩
    go_wp2_with fail
    refine (ofStripes p h _ _ _ (fun v w' => v = .int .i64 ((n + p.L - 1) / p.L) ∧ Below w.heap.size w w') (fun w1 hb => ?_)).mono ?_
    · have hb' := bt_ (below_alloc (below_alloc (Below.refl _ _) _) _) hb
      exact (stripesClos p h n h1 h2 _ _ w1 (((isPlan_alloc _ _ _).below (below_alloc (Below.refl _ _) _)).below hb) (pw_cell_below hb (by rw [World.cell?_alloc_at _ _ _ _ (by simp)]; rfl))).mono fun e w' ⟨v, he, ho, hB⟩ => ⟨v, he, ho, bt_ hb' hB⟩
    rintro e w1 ⟨v, rfl, ho, hB⟩
    subst ho
    go_wp2
    go_ret
    rw [hs.out]
    exact ⟨rfl, hB⟩
  · have hs : Hid (stripesOf p n = 0) := Lib.hid (by unfold stripesOf; rw [if_neg hn])
    have H9 : Hid (n < 1 ∨ 240 < n) := Lib.hid (by omega)
    clear hn
    go_enter Try.func65, Try.ntmps65
    go_wp2_with fail
    refine (in_no _ _ _ H9.out _).mono ?_
    rintro e w_ ⟨rfl, rfl⟩
    go_wp2
    go_ret
    rw [hs.out]
    exact ⟨rfl, below_alloc (below_alloc (Below.refl _ _) _) _⟩
set_option maxRecDepth 100000 in
set_option maxHeartbeats 1600000 in
theorem stripes_no (p : Pl) (h : ¬ p.Ok) (n : Int) (w : World) :
   Calls Try.prog 65 #[planV p, .int .i64 n] w fun e w' => e = .returned (.int .i64 0) ∧ Below w.heap.size w w' := by
  by_cases hn : 1 ≤ n ∧ n ≤ 240
  · obtain ⟨h1, h2⟩ := hn
    go_enter Try.func65, Try.ntmps65
    go_wp2_with fail
    refine (in_yes _ _ _ h1 h2 _).mono ?_
    rintro e w_ ⟨rfl, rfl⟩
    go_wp2_with fail
    refine (ofInt_no p h _ _).mono ?_
    rintro e w1 ⟨rfl, hb⟩
    go_wp2
    go_ret
    exact ⟨rfl, bt_ (below_alloc (below_alloc (Below.refl _ _) _) _) hb⟩
  · have H9 : Hid (n < 1 ∨ 240 < n) := Lib.hid (by omega)
    clear hn
    go_enter Try.func65, Try.ntmps65
    go_wp2_with fail
    refine (in_no _ _ _ H9.out _).mono ?_
    rintro e w_ ⟨rfl, rfl⟩
    go_wp2
    go_ret
    exact ⟨rfl, below_alloc (below_alloc (Below.refl _ _) _) _⟩
end Go.Proofs.Ytijeabhfddaoaaa
