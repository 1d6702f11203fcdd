/- The law SettleMeets. -/
import Derived.Test.YtacbenjfiabegaaUh
namespace Go.Proofs.Ytacbenjfiabegaa
set_option linter.unusedVariables false
set_option linter.unusedSimpArgs false
open Go.RowKit Go.Proofs.YtacbenjfiabegaaW.PrintWords Go.Proofs.Sh

/-- Nobody who answers has the mark: then those who answer, and those who have it, are not more than all. -/
theorem few_said (ans : List Bool) (mo : Int) (L1 L2 : List Ms) (he : ∀ j, j < L1.length → (L2.getD j zM).m = (L1.getD j zM).m) : ∀ k, k ≤ L1.length → (∀ x ∈ saidL ans L2 k, x.m ≠ mo) → (saidL ans L2 k).length + cntP (isM mo) (L1.take k) ≤ k
  | 0, _, _ => by simp [saidL, cntP]
  | k + 1, hk, hno => by
    have ih := few_said ans mo L1 L2 he k (by omega) (fun x hx => hno x (by simp only [saidL, List.mem_append]; exact .inl hx))
    rw [cntP_snoc (isM mo) L1 k (by omega)]
    simp only [saidL, List.length_append]
    cases hq : ans.getD k false with
    | false =>
      simp only [Bool.false_eq_true, if_false, List.length_nil]
      split <;> omega
    | true =>
      have hn := hno (L2.getD k zM) (by simp only [saidL, List.mem_append, hq, if_true]; exact .inr (List.mem_singleton.2 rfl))
      rw [he k (by omega)] at hn
      have : isM mo (L1.getD k zM) = false := by unfold isM; exact beq_eq_false_iff_ne.2 hn
      rw [this]
      simp only [if_true, List.length_singleton, Bool.false_eq_true, if_false]
      omega
theorem settle_fold (mo : Int) (v : Vl) : ∀ (S : List Ms) (s : Int × Vl), (∀ x ∈ S, (mval x).2 = true ∧ x.m ≤ mo ∧ (x.m = mo → (mval x).1 = v)) → s.1 ≤ mo → (s.1 = mo → s.2 = v) → (s.1 = mo ∨ ∃ x ∈ S, x.m = mo) →
    S.foldl (fun s x => if (mval x).2 && decide (s.1 < x.m) then (x.m, (mval x).1) else s) s = (mo, v)
  | [], s, _, h1, h2, h3 => by
    rcases h3 with h3 | ⟨x, hx, _⟩
    · show s = _
      rw [← h2 h3, ← h3]
    · cases hx
  | x :: S, s, hS, h1, h2, h3 => by
    obtain ⟨a1, a2, a3⟩ := hS x List.mem_cons_self
    rw [List.foldl_cons, a1, Bool.true_and]
    refine settle_fold mo v S _ (fun y hy => hS y (List.mem_cons_of_mem _ hy)) ?_ ?_ ?_
    · split
      · exact a2
      · exact h1
    · split
      · exact a3
      · exact h2
    · by_cases hm : x.m = mo
      · left
        by_cases hs : s.1 < x.m
        · rw [if_pos (decide_eq_true hs)]; exact hm
        · rw [if_neg (by simpa using hs)]; omega
      · rcases h3 with h3 | ⟨y, hy, hye⟩
        · left
          rw [if_neg (by simp; omega)]
          exact h3
        · right
          rcases List.mem_cons.1 hy with rfl | hy
          · exact absurd hye hm
          · exact ⟨y, hy, hye⟩
theorem le_mostL (l : List Ms) (x : Ms) (hx : x ∈ l) : x.m ≤ mostL l := by
  have key : ∀ (l : List Ms) (s : Int), s ≤ l.foldl (fun s x => max s x.m) s ∧ ∀ x ∈ l, x.m ≤ l.foldl (fun s x => max s x.m) s := by
    intro l
    induction l with
    | nil => exact fun s => ⟨by show s ≤ s; omega, fun x hx => by cases hx⟩
    | cons y l ih =>
      intro s
      obtain ⟨h1, h2⟩ := ih (max s y.m)
      refine ⟨by rw [List.foldl_cons]; omega, fun x hx => ?_⟩
      rw [List.foldl_cons]
      rcases List.mem_cons.1 hx with rfl | hx
      · omega
      · exact h2 x hx
  exact (key l 0).2 x hx
theorem settle_law (p : Pl) (l : List Ms) (ans : List Bool) (hN : (l.length : Int) = p.N) (h1 : mostL l ≥ 1) (h2 : p.W ≤ (cntP (isM (mostL l)) (stepL c1 l l.length) : Nat))
    (h3 : p.N - p.W + 1 ≤ (cntP soundB (saidL ans (stepL (c2 (mostL l)) (stepL c1 l l.length) l.length) l.length) : Nat)) :
    settleM (saidL ans (stepL (c2 (mostL l)) (stepL c1 l l.length) l.length) l.length) = (mostL l, ⟨true, 3, 4, 5⟩) := by
  have g1 : ∀ j, j < l.length → (stepL c1 l l.length).getD j zM = c1 j (l.getD j zM) := fun j hj => by rw [stepL_get c1 l j hj, if_pos hj]
  have len1 := stepL_len c1 l l.length
  have g2 : ∀ j, j < l.length → (stepL (c2 (mostL l)) (stepL c1 l l.length) l.length).getD j zM = c2 (mostL l) j (c1 j (l.getD j zM)) := fun j hj => by
    rw [stepL_get (c2 (mostL l)) (stepL c1 l l.length) j (by omega), if_pos hj, g1 j hj]
  have e2 : ∀ j, j < (stepL c1 l l.length).length → ((stepL (c2 (mostL l)) (stepL c1 l l.length) l.length).getD j zM).m = ((stepL c1 l l.length).getD j zM).m := fun j hj => by
    rw [g2 j (by omega), g1 j (by omega)]
    unfold c2
    split <;> rfl
  generalize stepL c1 l l.length = L1 at *
  generalize hL2 : stepL (c2 (mostL l)) L1 l.length = L2 at *
  have hmx : ∀ j, j < l.length → (l.getD j zM).m ≤ mostL l := fun j hj => le_mostL l _ (get_mem hj)
  generalize mostL l = mo at *
  have hall : ∀ x ∈ saidL ans L2 l.length, (mval x).2 = true ∧ x.m ≤ mo ∧ (x.m = mo → (mval x).1 = ⟨true, 3, 4, 5⟩) := fun x hx => by
    obtain ⟨j, hj, _, rfl⟩ := saidL_mem ans L2 l.length (by rw [← hL2, stepL_len]; omega) x hx
    rw [g2 j hj]
    have := hmx j hj
    unfold c2 c1
    split
    · next hm =>
      refine ⟨by simp [mval, ofM], this, fun _ => by simp [mval, ofM]⟩
    · next hm =>
      refine ⟨by simp [mval, ofM], this, fun e => absurd e hm⟩
  refine settle_fold mo _ _ _ hall (by show (0 : Int) ≤ mo; omega) (fun e => by have : (0 : Int) = mo := e; omega) (.inr ?_)
  refine Classical.byContradiction fun hno => ?_
  have hf := few_said ans mo L1 L2 e2 l.length (by omega) (fun x hx e => hno ⟨x, hx, e⟩)
  rw [List.take_of_length_le (by omega)] at hf
  have := cntP_le soundB (saidL ans L2 l.length)
  omega
set_option maxRecDepth 100000 in
set_option maxHeartbeats 12800000 in
theorem meets_far (p : Pl) (hi : p.In) (v : Value) (l : List Ms) (u : Value) (w : World) (hv : Ml w v l) (hbad : ¬ p.Ok ∨ 20 < p.N ∨ (l.length : Int) ≠ p.N) :
   Calls Try.prog 5 #[planV p, v, u] w fun e w' => e = .returned (.bool true) ∧ Below w.heap.size w w' := by
  obtain ⟨A, c, rfl⟩ := rk_form hv.row
  have halive := fun W => Lib.hid (alive36_c W)
  have HP := Blk.new w (planC p) 48
  have hB := below_alloc (Below.refl w.heap.size w) (.cells (planC p) 48)
  have hlm : l.length ≤ 9223372036854775807 := (rk_C hv.row).2.1
  obtain ⟨c0, c1', c2', c3, c4, c5⟩ := cells6 HP
  clear hv
  go_enter Try.func5, Try.ntmps5
  go_wp2_with fail
  generalize w.alloc (.cells (planC p) 48) = wa at *
  by_cases h : p.Ok
  · replace hbad := Lib.hid (hbad.resolve_left (fun hn => hn h))
    refine (rRight_yes p h _).mono ?_
    rintro e wb ⟨rfl, h1⟩
    replace HP := HP.below h1
    replace hB := bt_ hB h1
    clear h1 c0 c1' c2' c3 c4 c5
    obtain ⟨c0, c1', c2', c3, c4, c5⟩ := cells6 HP
    by_cases h20 : 20 < p.N
    · have t1 : decide (20 < p.N) = true := decide_eq_true h20
      clear HP
      go_wp2_with fail
      refine (halive _).out.mono ?_
      rintro e wz ⟨rfl, h1⟩
      replace hB := bt_ hB h1
      go_wp2
      go_ret
      exact ⟨rfl, hB⟩
    · have t1 : decide (20 < p.N) = false := decide_eq_false h20
      have t2 : ((l.length : Int) != p.N) = true := by rw [bne_iff_ne]; exact hbad.out.resolve_left h20
      clear HP
      go_wp2_with fail
      refine (halive _).out.mono ?_
      rintro e wz ⟨rfl, h1⟩
      replace hB := bt_ hB h1
      go_wp2
      go_ret
      exact ⟨rfl, hB⟩
  · refine (rRight_no p hi h _).mono ?_
    rintro e wb ⟨rfl, h1⟩
    replace hB := bt_ hB h1
    clear h1 c0 c1' c2' c3 c4 c5 HP
    go_wp2_with fail
    refine (halive _).out.mono ?_
    rintro e wz ⟨rfl, h1⟩
    replace hB := bt_ hB h1
    go_wp2
    go_ret
    exact ⟨rfl, hB⟩
theorem SettleMeets_walk (w : World) (N : Int) (hN : -9223372036854775808 ≤ N ∧ N ≤ 9223372036854775807) (T : Int) (hT : -9223372036854775808 ≤ T ∧ T ≤ 9223372036854775807) (L : Int) (hL : -9223372036854775808 ≤ L ∧ L ≤ 9223372036854775807) (W : Int) (hW : -9223372036854775808 ≤ W ∧ W ≤ 9223372036854775807) (S : Int) (hS : -9223372036854775808 ≤ S ∧ S ≤ 9223372036854775807) (R : Int) (hR : -9223372036854775808 ≤ R ∧ R ≤ 9223372036854775807) (v : Value) (l : List Ms) (hv : Rk kMr w v l) (u : Value) (ans : List Bool) (hu : Rk Kd.bool w u ans) :
   Calls Try.prog 5 #[.agg #[.int .i64 N, .int .i64 T, .int .i64 L, .int .i64 W, .int .i64 S, .int .i64 R], v, u] w fun e w' => e = .returned (.bool true) ∧ Below w.heap.size w w' := by
  have hi : Pl.In ⟨N, T, L, W, S, R⟩ := ⟨hN, hT, hL, hW, hS, hR⟩
  by_cases h : (Pl.mk N T L W S R).Ok
  · by_cases h20 : N ≤ 20
    · by_cases hl : (l.length : Int) = N
      · exact meets_c ⟨N, T, L, W, S, R⟩ h v l u ans w (ml_of hv) hu h20 hl (fun a b d => settle_law ⟨N, T, L, W, S, R⟩ l ans hl a b d)
      · exact meets_far ⟨N, T, L, W, S, R⟩ hi v l u w (ml_of hv) (.inr (.inr hl))
    · exact meets_far ⟨N, T, L, W, S, R⟩ hi v l u w (ml_of hv) (.inr (.inl (by show 20 < N; omega)))
  · exact meets_far ⟨N, T, L, W, S, R⟩ hi v l u w (ml_of hv) (.inl h)
end Go.Proofs.Ytacbenjfiabegaa
