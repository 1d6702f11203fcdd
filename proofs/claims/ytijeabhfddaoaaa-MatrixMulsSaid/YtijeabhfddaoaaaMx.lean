/- The walks of package matrix: count, scale, add, Unit. -/
import Derived.Test.YtijeabhfddaoaaaR04
import Derived.Test.YtijeabhfddaoaaaKv
namespace Go.Proofs.Ytijeabhfddaoaaa
set_option linter.unusedVariables false
open Go.RowKit Go.Proofs.YtijeabhfddaoaaaW.PrintWords Go.Proofs.Sh

set_option maxHeartbeats 400000 in
theorem count_c (n : Nat) (hn : n ≤ 256) (w : World) :
   Calls Try.prog 187 #[.int .i64 (n : Int)] w fun e w' => e = .returned (.int .i64 (n : Int)) ∧ w = w' := by
  have t1 : max (n : Int) 0 = n := by omega
  have t2 : min (n : Int) 256 = n := by omega
  have t3 : decide ((n : Int) < 0) = false := decide_eq_false (by omega)
  have t4 : decide ((0 : Int) < (n : Int)) = decide (0 < n) := decide_eq_decide.2 (by omega)
  go_enter Try.func187, Try.ntmps187
  go_wp2
  go_ret
  exact ⟨rfl, rfl⟩
/-- A row, told by a function. -/
abbrev rw_ (n : Nat) (f : Nat → F) : List F := (List.range n).map f
theorem rw_len (n : Nat) (f : Nat → F) : (rw_ n f).length = n := by simp
theorem rw_at {n : Nat} (f : Nat → F) {j : Nat} (hj : j < n) : (rw_ n f).getD j 0 = f j := by simp [List.getD_eq_getElem?_getD, hj]
theorem rw_congr {n : Nat} {f g : Nat → F} (h : ∀ j, j < n → f j = g j) : rw_ n f = rw_ n g := List.map_congr_left fun j hj => h j (List.mem_range.1 hj)
theorem rw_set {n : Nat} {f g : Nat → F} (k : Nat) (y : F) (h : ∀ j, j < n → j ≠ k → f j = g j) (hk : g k = y) : (rw_ n f).set k y = rw_ n g := by
  apply List.ext_getElem (by simp)
  intro j h1 h2
  have hj : j < n := by simpa using h2
  by_cases e : k = j
  · subst e
    simp [hk]
  · rw [List.getElem_set_ne e]
    simpa using h j hj (fun e' => e e'.symm)
/-- A row that is changed place by place. -/
abbrev upto (k : Nat) (f g : Nat → F) : Nat → F := fun j => if j < k then g j else f j
theorem upto_0 (n : Nat) (f g : Nat → F) : rw_ n (upto 0 f g) = rw_ n f := rw_congr fun j _ => if_neg (Nat.not_lt_zero _)
theorem upto_all (n : Nat) (f g : Nat → F) : rw_ n (upto n f g) = rw_ n g := rw_congr fun j hj => if_pos hj
theorem upto_at (k : Nat) (f g : Nat → F) : upto k f g k = f k := if_neg (Nat.lt_irrefl _)
theorem upto_set {n : Nat} (k : Nat) (f g : Nat → F) : (rw_ n (upto k f g)).set k (g k) = rw_ n (upto (k + 1) f g) :=
  rw_set k _ (fun j hj hne => by
    show (if j < k then g j else f j) = if j < k + 1 then g j else f j
    by_cases h : j < k
    · rw [if_pos h, if_pos (by omega)]
    · rw [if_neg h, if_neg (by omega)]) (if_pos (Nat.lt_succ_self _))
set_option maxRecDepth 100000 in
set_option maxHeartbeats 1600000 in
theorem mScale_c (b : Nat) (v : Value) (n : Nat) (f : Nat → F) (x : F) (w0 w : World) (hF : IsField w0 b) (hO : Ob w0 w v (rw_ n f)) (hB : Below w0.heap.size w0 w) (hl : n ≤ 1000) :
   Calls Try.prog 176 #[fp b, v, .int .u8 (x.n : Int)] w fun e w' => e = .returned (.tuple #[]) ∧ Ob w0 w' v (rw_ n (fun j => f j * x)) ∧ w.grownBy w' v.ownBlock ∧ Below w0.heap.size w0 w' := by
  by_cases h0 : n = 0
  · subst h0
    have e0 := List.map_nil (f := f)
    obtain ⟨A, c, rfl⟩ := rk_form hO.rk
    rw [rw_len] at hO ⊢
    go_enter Try.func176, Try.ntmps176
    go_wp2
    go_loop [9] (fun i => i = .int .i64 0) (fun i => 0)
    case atStart => rfl
    case round =>
      subst hrel
      go_wp2
      go_end0
      exact ⟨rfl, hO, World.grownBy.refl _ _, hB⟩
  · obtain ⟨g, cap, rfl, hg1, hg2⟩ := hO.form (by rw [rw_len]; omega)
    rw [rw_len] at hO ⊢
    have hf := Lib.hid (fun k => upto_set (n := n) k f (fun j => f j * x))
    have hall := Lib.hid (upto_all n f (fun j => f j * x))
    go_enter Try.func176, Try.ntmps176
    go_wp2_with fail
    go_loopw [9] (fun i wr => ∃ k : Nat, k ≤ n ∧ i = .int .i64 k ∧ Ob w0 wr (.slice (some ⟨g, 0, none⟩) n cap) (rw_ n (upto k f (fun j => f j * x))) ∧ w.grownBy wr (some g) ∧ Below w0.heap.size w0 wr) (fun i _ => n - (intOf i).toNat)
    case atStart => exact ⟨0, by omega, rfl, by rw [upto_0]; exact hO, World.grownBy.refl _ _, hB⟩
    case round =>
      clear hO hB
      obtain ⟨k, hk, rfl, hO, hG, hB⟩ := hrel
      by_cases hlt : k < n
      · obtain ⟨e1, e2⟩ := hO.at k (by rw [rw_len]; exact hlt)
        rw [rw_at _ hlt, upto_at] at e1
        have hst := hf.out k
        have hF' := hF.below hB
        have hst : (rw_ n (upto k f fun j => f j * x)).set k (f k * x) = rw_ n (upto (k + 1) f fun j => f j * x) := hst
        generalize f k = y at *
        go_wp2_with fail
        refine (mul_c b y x _ hF' _ _ rfl rfl).mono ?_
        rintro e w2 ⟨rfl, h2⟩
        have hO2 : Ob w0 w2 _ _ := hO.drawn h2
        have hB2 := bd hB h2
        have hG2 := World.grownBy.trans hG (grown_of_below h2.below (some g))
        obtain ⟨q1, q2⟩ := hO2.at k (by rw [rw_len]; exact hlt)
        obtain ⟨hO3, hgr⟩ := hO2.set k (y * x)
        rw [hst] at hO3
        have hG3 := World.grownBy.trans hG2 hgr
        have hB3 := hB2.grown hgr hB2.size (fun k hk => by injection hk with hk; omega)
        clear hO hO2 hB hB2 hG hG2 e1 e2 hgr hst
        go_wp2
        exact ⟨⟨k + 1, by omega, by go_num, hO3, hG3, hB3⟩, by simp [intOf]; try omega⟩
      · obtain rfl : k = n := by omega
        rw [hall.out] at hO
        go_wp2
        go_end0
        exact ⟨rfl, hO, hG, hB⟩
set_option maxRecDepth 100000 in
set_option maxHeartbeats 1600000 in
theorem mAdd_c (b : Nat) (v u : Value) (n : Nat) (f h : Nat → F) (x : F) (w0 w : World) (hF : IsField w0 b) (hO : Ob w0 w v (rw_ n f)) (hU : Ob w0 w u (rw_ n h)) (hne : NeRow v u) (hB : Below w0.heap.size w0 w) (hl : n ≤ 1000) :
   Calls Try.prog 205 #[fp b, v, u, .int .u8 (x.n : Int)] w fun e w' => e = .returned (.tuple #[]) ∧ Ob w0 w' v (rw_ n (fun j => f j + h j * x)) ∧ w.grownBy w' v.ownBlock ∧ Below w0.heap.size w0 w' := by
  by_cases h0 : n = 0
  · subst h0
    obtain ⟨A, c, rfl⟩ := rk_form hO.rk
    rw [rw_len] at hO ⊢
    go_enter Try.func205, Try.ntmps205
    go_wp2
    go_loop [11] (fun i => i = .int .i64 0) (fun i => 0)
    case atStart => rfl
    case round =>
      subst hrel
      go_wp2
      go_end0
      exact ⟨rfl, hO, World.grownBy.refl _ _, hB⟩
  · obtain ⟨g, cap, rfl, hg1, hg2⟩ := hO.form (by rw [rw_len]; omega)
    obtain ⟨g', cap', rfl, hg3, hg4⟩ := hU.form (by rw [rw_len]; omega)
    simp only [rw_len] at hO hU hne ⊢
    have hgne := Lib.hid (ne_other hne)
    have hf := Lib.hid (fun k => upto_set (n := n) k f (fun j => f j + h j * x))
    have hall := Lib.hid (upto_all n f (fun j => f j + h j * x))
    go_enter Try.func205, Try.ntmps205
    go_wp2_with fail
    go_loopw [11] (fun i wr => ∃ k : Nat, k ≤ n ∧ i = .int .i64 k ∧ Ob w0 wr (.slice (some ⟨g, 0, none⟩) n cap) (rw_ n (upto k f (fun j => f j + h j * x))) ∧ w.grownBy wr (some g) ∧ Below w0.heap.size w0 wr) (fun i _ => n - (intOf i).toNat)
    case atStart => exact ⟨0, by omega, rfl, by rw [upto_0]; exact hO, World.grownBy.refl _ _, hB⟩
    case round =>
      clear hO hB
      obtain ⟨k, hk, rfl, hO, hG, hB⟩ := hrel
      by_cases hlt : k < n
      · obtain ⟨e1, e2⟩ := hO.at k (by rw [rw_len]; exact hlt)
        rw [rw_at _ hlt, upto_at] at e1
        have hst : (rw_ n (upto k f fun j => f j + h j * x)).set k (f k + h k * x) = rw_ n (upto (k + 1) f fun j => f j + h j * x) := hf.out k
        have hU1 : Ob w0 wr (.slice (some ⟨g', 0, none⟩) n cap') (rw_ n h) := b_own (own_other (own_b hU) hG hgne.out)
        obtain ⟨e3, e4⟩ := hU1.at k (by rw [rw_len]; exact hlt)
        rw [rw_at _ hlt] at e3
        have hF' := hF.below hB
        clear hU1
        generalize f k = y at *
        generalize h k = z at *
        replace hst := Lib.hid hst
        go_wp2_with fail
        have hD : Drawn0 wr wr := Drawn0.refl _
        go_region_law (first
          | (go_simp; go_at_call 40; refine (mul_c b z x _ (by first | exact hF' | exact hF'.drew | exact hF'.drewN _) _ _ rfl rfl).mono ?_; rintro e w6 ⟨rfl, ⟨n6, rfl⟩⟩)
          | (go_simp; go_at_call 39; refine (add_c y (z * x) _ _ _ rfl rfl).mono ?_; rintro e w7 ⟨rfl, rfl⟩)
          | fail)
        all_goals go_wp2
        all_goals
          have hO1 : Ob w0 _ _ _ := hO.below (pw_below_drewN (Below.refl _ _) (1 + n6))
          have hB1 := pw_below_drewN hB (1 + n6)
          have hG1 := World.grownBy.trans hG (grown_of_below (pw_below_drewN (Below.refl wr.heap.size wr) (1 + n6)) (some g))
          obtain ⟨hO2, hgr⟩ := Ob.set hO1 k (y + z * x)
          rw [hst.out] at hO2
          exact ⟨⟨k + 1, by omega, by go_num, hO2, World.grownBy.trans hG1 hgr, hB1.grown hgr hB1.size (fun k hk => by injection hk with hk; omega)⟩, by simp [intOf]; try omega⟩
      · obtain rfl : k = n := by omega
        rw [hall.out] at hO
        go_wp2
        go_end0
        exact ⟨rfl, hO, hG, hB⟩
end Go.Proofs.Ytijeabhfddaoaaa
