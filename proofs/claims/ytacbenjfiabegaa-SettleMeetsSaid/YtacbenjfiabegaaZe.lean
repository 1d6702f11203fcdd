/- The walks of package zero. -/
import Derived.Test.YtacbenjfiabegaaPo
import Derived.Test.YtacbenjfiabegaaK5
import Derived.Test.YtacbenjfiabegaaM11
namespace Go.Proofs.Ytacbenjfiabegaa
set_option linter.unusedVariables false
open Go.RowKit Go.Proofs.YtacbenjfiabegaaW.PrintWords Go.Proofs.Sh

/-- A stripe's zero shares at x. -/
def zsh (T : Nat) (root tape : List F) (s : Nat) (x : F) : List F := (List.range s).map fun j => F.ev x root * F.ev x (F.tp T tape j)
/-- The variables that are caught. -/
structure ZEnv (w : World) (bf br bs bt bp : Nat) (fb T s : Nat) (rv tv : Value) (root tape : List F) : Prop where
  f : w.cell? ⟨bf, 0, none⟩ = some (fp fb)
  r : w.cell? ⟨br, 0, none⟩ = some rv
  s : w.cell? ⟨bs, 0, none⟩ = some (.int .i64 (s : Int))
  t : w.cell? ⟨bt, 0, none⟩ = some tv
  p : w.cell? ⟨bp, 1, none⟩ = some (.int .i64 (T : Int))
  fld : IsField w fb
  hr : Rb w rv root
  ht : Rb w tv tape
theorem ZEnv.below {w w1 : World} {bf br bs bt bp : Nat} {fb T s : Nat} {rv tv : Value} {root tape : List F} (h : ZEnv w bf br bs bt bp fb T s rv tv root tape) (hb : Below w.heap.size w w1) : ZEnv w1 bf br bs bt bp fb T s rv tv root tape :=
  ⟨pw_cell_below hb h.f, pw_cell_below hb h.r, pw_cell_below hb h.s, pw_cell_below hb h.t, pw_cell_below hb h.p, h.fld.below hb, h.hr.below hb, h.ht.below hb⟩
/-! ### Zero -/
/-! ### Add -/
set_option maxRecDepth 100000 in
set_option maxHeartbeats 1600000 in
theorem zAdd_c (v : Value) (l : List (List F)) (w : World) (hv : Rbb w v l) (b1 : l.length ≤ 1000) (b2 : ∀ r ∈ l, r.length ≤ 1000000) :
   Calls Try.prog 86 #[v] w fun e w' => ∃ z, e = .returned z ∧ Ob w w' z (F.addAll l) ∧ Below w.heap.size w w' := by
  cases l with
  | nil =>
    obtain ⟨A, c, rfl, hc, hr⟩ := hv
    go_enter Try.func86, Try.ntmps86
    go_wp2
    go_ret
    exact ⟨_, rfl, Own.nil _ _ _ _, Below.refl _ _⟩
  | cons a rest =>
    obtain ⟨A, c, rfl, hc, hr⟩ := hv
    obtain ⟨ad, u0, rfl, d0, hu0⟩ := kbb_at hr 0 (by simp)
    have hL := lit_own (w0 := w) (W := w) [] #[] rfl 0 rfl (by decide) (Nat.le_refl _)
    have hB1 := below_alloc (Below.refl w.heap.size w) (.cells #[] 5)
    replace hu0 : Rb w u0 a := hu0
    have hu0' := hu0.alloc (.cells #[] 5)
    obtain ⟨A0, c0, rfl⟩ := rk_form hu0
    have d0 : w.cell? ad = some (.slice A0 a.length c0) := by
      have h9 : ad.add 0 = ad := by unfold Addr.add; split <;> simp_all
      rw [h9] at d0
      exact d0
    have d1 := pw_cell_below hB1 d0
    have ha2 : a.length ≤ 1000000 := b2 a (List.mem_cons_self ..)
    have b3 := Lib.hid (fun r hr => b2 r (List.mem_cons_of_mem a hr))
    have b4 : rest.length ≤ 1000 := by simp at b1; omega
    clear b1 b2
    have hv0 : Rbb w (.slice (some ad) (rest.length + 1) c) (a :: rest) := ⟨some ad, c, rfl, hc, hr⟩
    have hc' : rest.length + 1 ≤ c := hc
    clear hr hc
    have t0 : ((rest.length : Int) + 1 == 0) = false := beq_eq_false_iff_ne.2 (by omega)
    by_cases hc1 : c = 1
    · subst hc1
      have hr0 : rest = [] := List.length_eq_zero_iff.1 (by omega)
      subst hr0
      have t0 : (((0 : Nat) : Int) + 1 == 0) = false := rfl
      by_cases ha : 0 < a.length
      · go_enter Try.func86, Try.ntmps86
        go_wp2_with (first | (at_builtin; refine wpList_app_b (w0 := w) rfl (.tmp 10) (.tmp 13) rfl _ [] _ a rfl rfl hL hu0' ha hB1 (by simp; omega) ?_; intro v1 w1 ho hb hg; rw [List.nil_append] at ho; have d2 := pw_cell_below hb d0) | fail)
        go_loopw [3, 5, 6, 18] (fun s _ _ i wr => i = .int .i64 0 ∧ Ob w wr s a ∧ Below w.heap.size w wr) (fun _ _ _ _ _ => 0)
        case atStart => exact ⟨rfl, ho, hb⟩
        case round =>
          clear ho hb
          obtain ⟨rfl, hO, hB⟩ := hrel
          go_wp2
          go_ret
          exact ⟨_, rfl, hO, hB⟩
      · have ha3 : a = [] := List.length_eq_zero_iff.1 (by omega)
        subst ha3
        have p1 : ∀ w : World, Sem.run Try.prog (pure (#[] : Array Value)) w = .ok #[] w := fun _ => rfl
        have p2 : ∀ (w : World) (a : Addr), Sem.run Try.prog (storeCells a []) w = .ok () w := fun _ _ => rfl
        have ho := hL
        have hb := hB1
        cases A0
        · go_enter Try.func86, Try.ntmps86
          go_wp2_with (first | (at_builtin; refine wpList_app_b (w0 := w) rfl (.tmp 10) (.tmp 13) rfl _ [] _ a rfl rfl hL hu0' ha hB1 (by simp; omega) ?_; intro v1 w1 ho hb hg; rw [List.nil_append] at ho; have d2 := pw_cell_below hb d0) | fail)
          clear p1 p2
          go_loopw [3, 5, 6, 18] (fun s _ _ i wr => i = .int .i64 0 ∧ Ob w wr s ([] : List F) ∧ Below w.heap.size w wr) (fun _ _ _ _ _ => 0)
          case atStart => exact ⟨rfl, ho, hb⟩
          case round =>
            clear ho hb
            obtain ⟨rfl, hO, hB⟩ := hrel
            go_wp2
            go_ret
            exact ⟨_, rfl, hO, hB⟩
        · go_enter Try.func86, Try.ntmps86
          go_wp2_with (first | (at_builtin; refine wpList_app_b (w0 := w) rfl (.tmp 10) (.tmp 13) rfl _ [] _ a rfl rfl hL hu0' ha hB1 (by simp; omega) ?_; intro v1 w1 ho hb hg; rw [List.nil_append] at ho; have d2 := pw_cell_below hb d0) | fail)
          clear p1 p2
          go_loopw [3, 5, 6, 18] (fun s _ _ i wr => i = .int .i64 0 ∧ Ob w wr s ([] : List F) ∧ Below w.heap.size w wr) (fun _ _ _ _ _ => 0)
          case atStart => exact ⟨rfl, ho, hb⟩
          case round =>
            clear ho hb
            obtain ⟨rfl, hO, hB⟩ := hrel
            go_wp2
            go_ret
            exact ⟨_, rfl, hO, hB⟩
    · have hv1 : Rbb w (.slice (some (ad.add 1)) rest.length (c - 1)) rest := rk_drop hv0 (m := 1) (by simp) rfl (by omega)
      by_cases ha : 0 < a.length
      · go_enter Try.func86, Try.ntmps86
        go_wp2_with (first | (at_builtin; refine wpList_app_b (w0 := w) rfl (.tmp 10) (.tmp 13) rfl _ [] _ a rfl rfl hL hu0' ha hB1 (by simp; omega) ?_; intro v1 w1 ho hb hg; rw [List.nil_append] at ho; have d2 := pw_cell_below hb d0) | fail)
        replace hv1 : Rbb w (.slice (some ⟨ad.block, ad.off + 1, none⟩) rest.length (c - 1)) rest := hv1
        generalize (⟨ad.block, ad.off + 1, none⟩ : Addr) = ad1 at *
        go_loopw [3, 5, 6, 18] (fun s _ _ i wr => ∃ k : Nat, k ≤ rest.length ∧ i = .int .i64 k ∧ Ob w wr s ((rest.take k).foldl F.zadd a) ∧ Below w.heap.size w wr) (fun _ _ _ i _ => rest.length - (intOf i).toNat)
        case atStart => exact ⟨0, by omega, rfl, by rw [List.take_zero]; exact ho, hb⟩
        case round =>
          clear ho hb
          obtain ⟨k, hk, rfl, hO, hB⟩ := hrel
          by_cases hlt : k < rest.length
          · obtain ⟨ad2, u, e0, c1, hu⟩ := kbb_at (rk_C hv1) k hlt
            injection e0 with e0
            subst e0
            have c1 := pw_cell_below hB c1
            have HS : Hid ((rest.take (k + 1)).foldl F.zadd a = F.zadd ((rest.take k).foldl F.zadd a) (rest.getD k [])) := Lib.hid (by rw [take_snoc' rest k [] hlt, List.foldl_append]; rfl)
            have hy : (rest.getD k []).length ≤ 1000000 := b3.out _ (by rw [List.getD_eq_getElem?_getD, List.getElem?_eq_getElem hlt]; exact List.getElem_mem hlt)
            generalize (rest.take k).foldl F.zadd a = X at *
            generalize rest.getD k [] = y at *
            obtain ⟨A5, c5, rfl⟩ := rk_form hu
            obtain ⟨A6, c6, rfl⟩ := rk_form hO.rk
            have hXl := kb_len (rk_C hO.rk)
            obtain ⟨_, hX6⟩ := ob_slice hO
            by_cases hm : y.length < X.length
            · have hm' : (y.length : Int) < (X.length : Int) := by omega
              have hOt := Ob.take hO (m := y.length) (by omega)
              have hql : (X.take y.length).length = y.length := by rw [List.length_take]; omega
              have hfin : Hid (F.zaddTo (X.take y.length) y y.length = F.zadd X y) := Lib.hid (by
                have h1 := F.zaddTo_all (X.take y.length) y (by rw [hql]; omega)
                rw [hql] at h1
                have h2 := F.zadd_take X y
                rw [show min X.length y.length = y.length from by omega] at h2
                rw [h1, h2])
              have hq6 : ((y.length : Nat) : Int) ≤ (c6 : Int) := by omega
              have hq7 : (0 : Int) ≤ ((y.length : Nat) : Int) := by omega
              rw [← F.zaddTo_0 (X.take y.length) y] at hOt
              have hset := fun i (hi : i < y.length) => Lib.hid (And.intro (F.zaddTo_at (X.take y.length) y i (by rw [hql]; exact hi) (by omega)) (And.intro (F.zaddTo_set (X.take y.length) y i (by rw [hql]; exact hi) (by omega)) (F.zaddTo_len (X.take y.length) y i (by rw [hql]; omega) (by omega))))
              replace hset := Lib.hid hset
              replace hql := Lib.hid hql
              generalize X.take y.length = X2 at *
              clear hO
              go_wp2_with fail
              go_loopw [6, 31] (fun _ j wr2 => ∃ i : Nat, i ≤ y.length ∧ j = .int .i64 i ∧ Ob w wr2 (.slice A6 y.length c6) (F.zaddTo X2 y i) ∧ Below w.heap.size w wr2) (fun _ j _ => y.length - (intOf j).toNat)
              case atStart => exact ⟨0, by omega, rfl, hOt, hB⟩
              case round =>
                clear hOt hB c1
                obtain ⟨i, hi, rfl, hO, hB⟩ := hrel
                by_cases hlt2 : i < y.length
                · obtain ⟨e1, e2, e3⟩ := (hset.out i hlt2).out
                  obtain ⟨g, cap, ef, hg1, hg2⟩ := hO.form (by rw [e3, hql.out]; omega)
                  injection ef with ef1 ef2 ef3
                  subst ef1
                  obtain ⟨c2, f2⟩ := hO.at i (by rw [e3, hql.out]; exact hlt2)
                  obtain ⟨ady, rfl, c3⟩ := kb_at (rk_C (hu.below hB)) i (by omega)
                  rw [e1] at c2
                  have hlt3 : (i : Int) < (y.length : Int) := by omega
                  have hlt4 : (i : Int) < (y.length : Int) := by omega
                  have hnx := Lib.hid e2
                  clear e1 e2 e3 ef2 ef3
                  generalize X2.getD i 0 = x at *
                  generalize y.getD i 0 = z at *
                  go_wp2_with fail
                  go_region_law (first
                      | (go_simp; go_at_call 103; refine (add_c x z _ _ _ rfl rfl).mono ?_; rintro e w7 ⟨rfl, rfl⟩)
                      | fail)
                  all_goals go_wp2
                  all_goals
                    have hB1 := below_drew hB
                    obtain ⟨hO2, hgr⟩ := Ob.set (hO.below (below_drew (Below.refl _ _))) i (x + z)
                    rw [hnx.out] at hO2
                    exact ⟨⟨i + 1, by omega, by go_num, hO2, hB1.grown hgr hB1.size (fun k hk => by injection hk with hk; omega)⟩, by simp [intOf]; try omega⟩
                · obtain rfl : i = y.length := by omega
                  rw [hfin.out] at hO
                  go_wp2
                  exact ⟨⟨k + 1, by omega, by go_num, by rw [HS.out]; exact hO, hB⟩, by simp [intOf]; try omega⟩
            · have hm' : decide ((y.length : Int) < (X.length : Int)) = false := decide_eq_false (by omega)
              have hOt := Ob.take hO (m := X.length) (by omega)
              have hql : (X.take X.length).length = X.length := by rw [List.length_take]; omega
              have hfin : Hid (F.zaddTo (X.take X.length) y X.length = F.zadd X y) := Lib.hid (by
                have h1 := F.zaddTo_all (X.take X.length) y (by rw [hql]; omega)
                rw [hql] at h1
                have h2 := F.zadd_take X y
                rw [show min X.length y.length = X.length from by omega] at h2
                rw [h1, h2])
              have hq6 : ((X.length : Nat) : Int) ≤ (c6 : Int) := by omega
              have hq7 : (0 : Int) ≤ ((X.length : Nat) : Int) := by omega
              rw [← F.zaddTo_0 (X.take X.length) y] at hOt
              have hset := fun i (hi : i < X.length) => Lib.hid (And.intro (F.zaddTo_at (X.take X.length) y i (by rw [hql]; exact hi) (by omega)) (And.intro (F.zaddTo_set (X.take X.length) y i (by rw [hql]; exact hi) (by omega)) (F.zaddTo_len (X.take X.length) y i (by rw [hql]; omega) (by omega))))
              replace hset := Lib.hid hset
              replace hql := Lib.hid hql
              generalize X.take X.length = X2 at *
              clear hO
              go_wp2_with fail
              go_loopw [6, 31] (fun _ j wr2 => ∃ i : Nat, i ≤ X.length ∧ j = .int .i64 i ∧ Ob w wr2 (.slice A6 X.length c6) (F.zaddTo X2 y i) ∧ Below w.heap.size w wr2) (fun _ j _ => X.length - (intOf j).toNat)
              case atStart => exact ⟨0, by omega, rfl, hOt, hB⟩
              case round =>
                clear hOt hB c1
                obtain ⟨i, hi, rfl, hO, hB⟩ := hrel
                by_cases hlt2 : i < X.length
                · obtain ⟨e1, e2, e3⟩ := (hset.out i hlt2).out
                  obtain ⟨g, cap, ef, hg1, hg2⟩ := hO.form (by rw [e3, hql.out]; omega)
                  injection ef with ef1 ef2 ef3
                  subst ef1
                  obtain ⟨c2, f2⟩ := hO.at i (by rw [e3, hql.out]; exact hlt2)
                  obtain ⟨ady, rfl, c3⟩ := kb_at (rk_C (hu.below hB)) i (by omega)
                  rw [e1] at c2
                  have hlt3 : (i : Int) < (X.length : Int) := by omega
                  have hlt4 : (i : Int) < (y.length : Int) := by omega
                  have hnx := Lib.hid e2
                  clear e1 e2 e3 ef2 ef3
                  generalize X2.getD i 0 = x at *
                  generalize y.getD i 0 = z at *
                  go_wp2_with fail
                  go_region_law (first
                      | (go_simp; go_at_call 103; refine (add_c x z _ _ _ rfl rfl).mono ?_; rintro e w7 ⟨rfl, rfl⟩)
                      | fail)
                  all_goals go_wp2
                  all_goals
                    have hB1 := below_drew hB
                    obtain ⟨hO2, hgr⟩ := Ob.set (hO.below (below_drew (Below.refl _ _))) i (x + z)
                    rw [hnx.out] at hO2
                    exact ⟨⟨i + 1, by omega, by go_num, hO2, hB1.grown hgr hB1.size (fun k hk => by injection hk with hk; omega)⟩, by simp [intOf]; try omega⟩
                · obtain rfl : i = X.length := by omega
                  rw [hfin.out] at hO
                  go_wp2
                  exact ⟨⟨k + 1, by omega, by go_num, by rw [HS.out]; exact hO, hB⟩, by simp [intOf]; try omega⟩
          · obtain rfl : k = rest.length := by omega
            rw [List.take_length] at hO
            go_wp2
            go_ret
            exact ⟨_, rfl, hO, hB⟩
      · have ha3 : a = [] := List.length_eq_zero_iff.1 (by omega)
        subst ha3
        have p1 : ∀ w : World, Sem.run Try.prog (pure (#[] : Array Value)) w = .ok #[] w := fun _ => rfl
        have p2 : ∀ (w : World) (a : Addr), Sem.run Try.prog (storeCells a []) w = .ok () w := fun _ _ => rfl
        have ho := hL
        have hb := hB1
        cases A0
        · go_enter Try.func86, Try.ntmps86
          go_wp2_with (first | (at_builtin; refine wpList_app_b (w0 := w) rfl (.tmp 10) (.tmp 13) rfl _ [] _ a rfl rfl hL hu0' ha hB1 (by simp; omega) ?_; intro v1 w1 ho hb hg; rw [List.nil_append] at ho; have d2 := pw_cell_below hb d0) | fail)
          clear p1 p2
          replace hv1 : Rbb w (.slice (some ⟨ad.block, ad.off + 1, none⟩) rest.length (c - 1)) rest := hv1
          generalize (⟨ad.block, ad.off + 1, none⟩ : Addr) = ad1 at *
          go_loopw [3, 5, 6, 18] (fun s _ _ i wr => ∃ k : Nat, k ≤ rest.length ∧ i = .int .i64 k ∧ Ob w wr s ((rest.take k).foldl F.zadd ([] : List F)) ∧ Below w.heap.size w wr) (fun _ _ _ i _ => rest.length - (intOf i).toNat)
          case atStart => exact ⟨0, by omega, rfl, by rw [List.take_zero]; exact ho, hb⟩
          case round =>
            clear ho hb
            obtain ⟨k, hk, rfl, hO, hB⟩ := hrel
            by_cases hlt : k < rest.length
            · obtain ⟨ad2, u, e0, c1, hu⟩ := kbb_at (rk_C hv1) k hlt
              injection e0 with e0
              subst e0
              have c1 := pw_cell_below hB c1
              have HS : Hid ((rest.take (k + 1)).foldl F.zadd ([] : List F) = F.zadd ((rest.take k).foldl F.zadd ([] : List F)) (rest.getD k [])) := Lib.hid (by rw [take_snoc' rest k [] hlt, List.foldl_append]; rfl)
              have hy : (rest.getD k []).length ≤ 1000000 := b3.out _ (by rw [List.getD_eq_getElem?_getD, List.getElem?_eq_getElem hlt]; exact List.getElem_mem hlt)
              generalize (rest.take k).foldl F.zadd ([] : List F) = X at *
              generalize rest.getD k [] = y at *
              obtain ⟨A5, c5, rfl⟩ := rk_form hu
              obtain ⟨A6, c6, rfl⟩ := rk_form hO.rk
              have hXl := kb_len (rk_C hO.rk)
              obtain ⟨_, hX6⟩ := ob_slice hO
              by_cases hm : y.length < X.length
              · have hm' : (y.length : Int) < (X.length : Int) := by omega
                have hOt := Ob.take hO (m := y.length) (by omega)
                have hql : (X.take y.length).length = y.length := by rw [List.length_take]; omega
                have hfin : Hid (F.zaddTo (X.take y.length) y y.length = F.zadd X y) := Lib.hid (by
                  have h1 := F.zaddTo_all (X.take y.length) y (by rw [hql]; omega)
                  rw [hql] at h1
                  have h2 := F.zadd_take X y
                  rw [show min X.length y.length = y.length from by omega] at h2
                  rw [h1, h2])
                have hq6 : ((y.length : Nat) : Int) ≤ (c6 : Int) := by omega
                have hq7 : (0 : Int) ≤ ((y.length : Nat) : Int) := by omega
                rw [← F.zaddTo_0 (X.take y.length) y] at hOt
                have hset := fun i (hi : i < y.length) => Lib.hid (And.intro (F.zaddTo_at (X.take y.length) y i (by rw [hql]; exact hi) (by omega)) (And.intro (F.zaddTo_set (X.take y.length) y i (by rw [hql]; exact hi) (by omega)) (F.zaddTo_len (X.take y.length) y i (by rw [hql]; omega) (by omega))))
                replace hset := Lib.hid hset
                replace hql := Lib.hid hql
                generalize X.take y.length = X2 at *
                clear hO
                go_wp2_with fail
                go_loopw [6, 31] (fun _ j wr2 => ∃ i : Nat, i ≤ y.length ∧ j = .int .i64 i ∧ Ob w wr2 (.slice A6 y.length c6) (F.zaddTo X2 y i) ∧ Below w.heap.size w wr2) (fun _ j _ => y.length - (intOf j).toNat)
                case atStart => exact ⟨0, by omega, rfl, hOt, hB⟩
                case round =>
                  clear hOt hB c1
                  obtain ⟨i, hi, rfl, hO, hB⟩ := hrel
                  by_cases hlt2 : i < y.length
                  · obtain ⟨e1, e2, e3⟩ := (hset.out i hlt2).out
                    obtain ⟨g, cap, ef, hg1, hg2⟩ := hO.form (by rw [e3, hql.out]; omega)
                    injection ef with ef1 ef2 ef3
                    subst ef1
                    obtain ⟨c2, f2⟩ := hO.at i (by rw [e3, hql.out]; exact hlt2)
                    obtain ⟨ady, rfl, c3⟩ := kb_at (rk_C (hu.below hB)) i (by omega)
                    rw [e1] at c2
                    have hlt3 : (i : Int) < (y.length : Int) := by omega
                    have hlt4 : (i : Int) < (y.length : Int) := by omega
                    have hnx := Lib.hid e2
                    clear e1 e2 e3 ef2 ef3
                    generalize X2.getD i 0 = x at *
                    generalize y.getD i 0 = z at *
                    go_wp2_with fail
                    go_region_law (first
                        | (go_simp; go_at_call 103; refine (add_c x z _ _ _ rfl rfl).mono ?_; rintro e w7 ⟨rfl, rfl⟩)
                        | fail)
                    all_goals go_wp2
                    all_goals
                      have hB1 := below_drew hB
                      obtain ⟨hO2, hgr⟩ := Ob.set (hO.below (below_drew (Below.refl _ _))) i (x + z)
                      rw [hnx.out] at hO2
                      exact ⟨⟨i + 1, by omega, by go_num, hO2, hB1.grown hgr hB1.size (fun k hk => by injection hk with hk; omega)⟩, by simp [intOf]; try omega⟩
                  · obtain rfl : i = y.length := by omega
                    rw [hfin.out] at hO
                    go_wp2
                    exact ⟨⟨k + 1, by omega, by go_num, by rw [HS.out]; exact hO, hB⟩, by simp [intOf]; try omega⟩
              · have hm' : decide ((y.length : Int) < (X.length : Int)) = false := decide_eq_false (by omega)
                have hOt := Ob.take hO (m := X.length) (by omega)
                have hql : (X.take X.length).length = X.length := by rw [List.length_take]; omega
                have hfin : Hid (F.zaddTo (X.take X.length) y X.length = F.zadd X y) := Lib.hid (by
                  have h1 := F.zaddTo_all (X.take X.length) y (by rw [hql]; omega)
                  rw [hql] at h1
                  have h2 := F.zadd_take X y
                  rw [show min X.length y.length = X.length from by omega] at h2
                  rw [h1, h2])
                have hq6 : ((X.length : Nat) : Int) ≤ (c6 : Int) := by omega
                have hq7 : (0 : Int) ≤ ((X.length : Nat) : Int) := by omega
                rw [← F.zaddTo_0 (X.take X.length) y] at hOt
                have hset := fun i (hi : i < X.length) => Lib.hid (And.intro (F.zaddTo_at (X.take X.length) y i (by rw [hql]; exact hi) (by omega)) (And.intro (F.zaddTo_set (X.take X.length) y i (by rw [hql]; exact hi) (by omega)) (F.zaddTo_len (X.take X.length) y i (by rw [hql]; omega) (by omega))))
                replace hset := Lib.hid hset
                replace hql := Lib.hid hql
                generalize X.take X.length = X2 at *
                clear hO
                go_wp2_with fail
                go_loopw [6, 31] (fun _ j wr2 => ∃ i : Nat, i ≤ X.length ∧ j = .int .i64 i ∧ Ob w wr2 (.slice A6 X.length c6) (F.zaddTo X2 y i) ∧ Below w.heap.size w wr2) (fun _ j _ => X.length - (intOf j).toNat)
                case atStart => exact ⟨0, by omega, rfl, hOt, hB⟩
                case round =>
                  clear hOt hB c1
                  obtain ⟨i, hi, rfl, hO, hB⟩ := hrel
                  by_cases hlt2 : i < X.length
                  · obtain ⟨e1, e2, e3⟩ := (hset.out i hlt2).out
                    obtain ⟨g, cap, ef, hg1, hg2⟩ := hO.form (by rw [e3, hql.out]; omega)
                    injection ef with ef1 ef2 ef3
                    subst ef1
                    obtain ⟨c2, f2⟩ := hO.at i (by rw [e3, hql.out]; exact hlt2)
                    obtain ⟨ady, rfl, c3⟩ := kb_at (rk_C (hu.below hB)) i (by omega)
                    rw [e1] at c2
                    have hlt3 : (i : Int) < (X.length : Int) := by omega
                    have hlt4 : (i : Int) < (y.length : Int) := by omega
                    have hnx := Lib.hid e2
                    clear e1 e2 e3 ef2 ef3
                    generalize X2.getD i 0 = x at *
                    generalize y.getD i 0 = z at *
                    go_wp2_with fail
                    go_region_law (first
                        | (go_simp; go_at_call 103; refine (add_c x z _ _ _ rfl rfl).mono ?_; rintro e w7 ⟨rfl, rfl⟩)
                        | fail)
                    all_goals go_wp2
                    all_goals
                      have hB1 := below_drew hB
                      obtain ⟨hO2, hgr⟩ := Ob.set (hO.below (below_drew (Below.refl _ _))) i (x + z)
                      rw [hnx.out] at hO2
                      exact ⟨⟨i + 1, by omega, by go_num, hO2, hB1.grown hgr hB1.size (fun k hk => by injection hk with hk; omega)⟩, by simp [intOf]; try omega⟩
                  · obtain rfl : i = X.length := by omega
                    rw [hfin.out] at hO
                    go_wp2
                    exact ⟨⟨k + 1, by omega, by go_num, by rw [HS.out]; exact hO, hB⟩, by simp [intOf]; try omega⟩
            · obtain rfl : k = rest.length := by omega
              rw [List.take_length] at hO
              go_wp2
              go_ret
              exact ⟨_, rfl, hO, hB⟩
        · go_enter Try.func86, Try.ntmps86
          go_wp2_with (first | (at_builtin; refine wpList_app_b (w0 := w) rfl (.tmp 10) (.tmp 13) rfl _ [] _ a rfl rfl hL hu0' ha hB1 (by simp; omega) ?_; intro v1 w1 ho hb hg; rw [List.nil_append] at ho; have d2 := pw_cell_below hb d0) | fail)
          clear p1 p2
          replace hv1 : Rbb w (.slice (some ⟨ad.block, ad.off + 1, none⟩) rest.length (c - 1)) rest := hv1
          generalize (⟨ad.block, ad.off + 1, none⟩ : Addr) = ad1 at *
          go_loopw [3, 5, 6, 18] (fun s _ _ i wr => ∃ k : Nat, k ≤ rest.length ∧ i = .int .i64 k ∧ Ob w wr s ((rest.take k).foldl F.zadd ([] : List F)) ∧ Below w.heap.size w wr) (fun _ _ _ i _ => rest.length - (intOf i).toNat)
          case atStart => exact ⟨0, by omega, rfl, by rw [List.take_zero]; exact ho, hb⟩
          case round =>
            clear ho hb
            obtain ⟨k, hk, rfl, hO, hB⟩ := hrel
            by_cases hlt : k < rest.length
            · obtain ⟨ad2, u, e0, c1, hu⟩ := kbb_at (rk_C hv1) k hlt
              injection e0 with e0
              subst e0
              have c1 := pw_cell_below hB c1
              have HS : Hid ((rest.take (k + 1)).foldl F.zadd ([] : List F) = F.zadd ((rest.take k).foldl F.zadd ([] : List F)) (rest.getD k [])) := Lib.hid (by rw [take_snoc' rest k [] hlt, List.foldl_append]; rfl)
              have hy : (rest.getD k []).length ≤ 1000000 := b3.out _ (by rw [List.getD_eq_getElem?_getD, List.getElem?_eq_getElem hlt]; exact List.getElem_mem hlt)
              generalize (rest.take k).foldl F.zadd ([] : List F) = X at *
              generalize rest.getD k [] = y at *
              obtain ⟨A5, c5, rfl⟩ := rk_form hu
              obtain ⟨A6, c6, rfl⟩ := rk_form hO.rk
              have hXl := kb_len (rk_C hO.rk)
              obtain ⟨_, hX6⟩ := ob_slice hO
              by_cases hm : y.length < X.length
              · have hm' : (y.length : Int) < (X.length : Int) := by omega
                have hOt := Ob.take hO (m := y.length) (by omega)
                have hql : (X.take y.length).length = y.length := by rw [List.length_take]; omega
                have hfin : Hid (F.zaddTo (X.take y.length) y y.length = F.zadd X y) := Lib.hid (by
                  have h1 := F.zaddTo_all (X.take y.length) y (by rw [hql]; omega)
                  rw [hql] at h1
                  have h2 := F.zadd_take X y
                  rw [show min X.length y.length = y.length from by omega] at h2
                  rw [h1, h2])
                have hq6 : ((y.length : Nat) : Int) ≤ (c6 : Int) := by omega
                have hq7 : (0 : Int) ≤ ((y.length : Nat) : Int) := by omega
                rw [← F.zaddTo_0 (X.take y.length) y] at hOt
                have hset := fun i (hi : i < y.length) => Lib.hid (And.intro (F.zaddTo_at (X.take y.length) y i (by rw [hql]; exact hi) (by omega)) (And.intro (F.zaddTo_set (X.take y.length) y i (by rw [hql]; exact hi) (by omega)) (F.zaddTo_len (X.take y.length) y i (by rw [hql]; omega) (by omega))))
                replace hset := Lib.hid hset
                replace hql := Lib.hid hql
                generalize X.take y.length = X2 at *
                clear hO
                go_wp2_with fail
                go_loopw [6, 31] (fun _ j wr2 => ∃ i : Nat, i ≤ y.length ∧ j = .int .i64 i ∧ Ob w wr2 (.slice A6 y.length c6) (F.zaddTo X2 y i) ∧ Below w.heap.size w wr2) (fun _ j _ => y.length - (intOf j).toNat)
                case atStart => exact ⟨0, by omega, rfl, hOt, hB⟩
                case round =>
                  clear hOt hB c1
                  obtain ⟨i, hi, rfl, hO, hB⟩ := hrel
                  by_cases hlt2 : i < y.length
                  · obtain ⟨e1, e2, e3⟩ := (hset.out i hlt2).out
                    obtain ⟨g, cap, ef, hg1, hg2⟩ := hO.form (by rw [e3, hql.out]; omega)
                    injection ef with ef1 ef2 ef3
                    subst ef1
                    obtain ⟨c2, f2⟩ := hO.at i (by rw [e3, hql.out]; exact hlt2)
                    obtain ⟨ady, rfl, c3⟩ := kb_at (rk_C (hu.below hB)) i (by omega)
                    rw [e1] at c2
                    have hlt3 : (i : Int) < (y.length : Int) := by omega
                    have hlt4 : (i : Int) < (y.length : Int) := by omega
                    have hnx := Lib.hid e2
                    clear e1 e2 e3 ef2 ef3
                    generalize X2.getD i 0 = x at *
                    generalize y.getD i 0 = z at *
                    go_wp2_with fail
                    go_region_law (first
                        | (go_simp; go_at_call 103; refine (add_c x z _ _ _ rfl rfl).mono ?_; rintro e w7 ⟨rfl, rfl⟩)
                        | fail)
                    all_goals go_wp2
                    all_goals
                      have hB1 := below_drew hB
                      obtain ⟨hO2, hgr⟩ := Ob.set (hO.below (below_drew (Below.refl _ _))) i (x + z)
                      rw [hnx.out] at hO2
                      exact ⟨⟨i + 1, by omega, by go_num, hO2, hB1.grown hgr hB1.size (fun k hk => by injection hk with hk; omega)⟩, by simp [intOf]; try omega⟩
                  · obtain rfl : i = y.length := by omega
                    rw [hfin.out] at hO
                    go_wp2
                    exact ⟨⟨k + 1, by omega, by go_num, by rw [HS.out]; exact hO, hB⟩, by simp [intOf]; try omega⟩
              · have hm' : decide ((y.length : Int) < (X.length : Int)) = false := decide_eq_false (by omega)
                have hOt := Ob.take hO (m := X.length) (by omega)
                have hql : (X.take X.length).length = X.length := by rw [List.length_take]; omega
                have hfin : Hid (F.zaddTo (X.take X.length) y X.length = F.zadd X y) := Lib.hid (by
                  have h1 := F.zaddTo_all (X.take X.length) y (by rw [hql]; omega)
                  rw [hql] at h1
                  have h2 := F.zadd_take X y
                  rw [show min X.length y.length = X.length from by omega] at h2
                  rw [h1, h2])
                have hq6 : ((X.length : Nat) : Int) ≤ (c6 : Int) := by omega
                have hq7 : (0 : Int) ≤ ((X.length : Nat) : Int) := by omega
                rw [← F.zaddTo_0 (X.take X.length) y] at hOt
                have hset := fun i (hi : i < X.length) => Lib.hid (And.intro (F.zaddTo_at (X.take X.length) y i (by rw [hql]; exact hi) (by omega)) (And.intro (F.zaddTo_set (X.take X.length) y i (by rw [hql]; exact hi) (by omega)) (F.zaddTo_len (X.take X.length) y i (by rw [hql]; omega) (by omega))))
                replace hset := Lib.hid hset
                replace hql := Lib.hid hql
                generalize X.take X.length = X2 at *
                clear hO
                go_wp2_with fail
                go_loopw [6, 31] (fun _ j wr2 => ∃ i : Nat, i ≤ X.length ∧ j = .int .i64 i ∧ Ob w wr2 (.slice A6 X.length c6) (F.zaddTo X2 y i) ∧ Below w.heap.size w wr2) (fun _ j _ => X.length - (intOf j).toNat)
                case atStart => exact ⟨0, by omega, rfl, hOt, hB⟩
                case round =>
                  clear hOt hB c1
                  obtain ⟨i, hi, rfl, hO, hB⟩ := hrel
                  by_cases hlt2 : i < X.length
                  · obtain ⟨e1, e2, e3⟩ := (hset.out i hlt2).out
                    obtain ⟨g, cap, ef, hg1, hg2⟩ := hO.form (by rw [e3, hql.out]; omega)
                    injection ef with ef1 ef2 ef3
                    subst ef1
                    obtain ⟨c2, f2⟩ := hO.at i (by rw [e3, hql.out]; exact hlt2)
                    obtain ⟨ady, rfl, c3⟩ := kb_at (rk_C (hu.below hB)) i (by omega)
                    rw [e1] at c2
                    have hlt3 : (i : Int) < (X.length : Int) := by omega
                    have hlt4 : (i : Int) < (y.length : Int) := by omega
                    have hnx := Lib.hid e2
                    clear e1 e2 e3 ef2 ef3
                    generalize X2.getD i 0 = x at *
                    generalize y.getD i 0 = z at *
                    go_wp2_with fail
                    go_region_law (first
                        | (go_simp; go_at_call 103; refine (add_c x z _ _ _ rfl rfl).mono ?_; rintro e w7 ⟨rfl, rfl⟩)
                        | fail)
                    all_goals go_wp2
                    all_goals
                      have hB1 := below_drew hB
                      obtain ⟨hO2, hgr⟩ := Ob.set (hO.below (below_drew (Below.refl _ _))) i (x + z)
                      rw [hnx.out] at hO2
                      exact ⟨⟨i + 1, by omega, by go_num, hO2, hB1.grown hgr hB1.size (fun k hk => by injection hk with hk; omega)⟩, by simp [intOf]; try omega⟩
                  · obtain rfl : i = X.length := by omega
                    rw [hfin.out] at hO
                    go_wp2
                    exact ⟨⟨k + 1, by omega, by go_num, by rw [HS.out]; exact hO, hB⟩, by simp [intOf]; try omega⟩
            · obtain rfl : k = rest.length := by omega
              rw [List.take_length] at hO
              go_wp2
              go_ret
              exact ⟨_, rfl, hO, hB⟩
end Go.Proofs.Ytacbenjfiabegaa
