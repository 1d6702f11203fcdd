/- Runs of slots: pairs of numbers in two cells; rows of them. -/
import Derived.Test.YtacbenjfiabegaaHp
import Derived.Test.YtacbenjfiabegaaMe
import Derived.Test.YtacbenjfiabegaaFs
import Derived.Test.YtacbenjfiabegaaHm
namespace Go.Proofs.Ytacbenjfiabegaa
set_option linter.unusedVariables false
set_option linter.unusedSimpArgs false
open Go.RowKit Go.Proofs.YtacbenjfiabegaaW.PrintWords Go.Proofs.Sh

/-- A run's cells. -/
def pC (p : Int × Int) : List Value := [.int .i64 p.1, .int .i64 p.2]
def kp : Kd (Int × Int) where
  sz := 2
  E := []
  K := fun _ x cs => cs = pC x
  M := fun _ _ _ x cs => cs = pC x
  K_len := fun h => by rw [h]; rfl
  K_one := fun h u hu => by
    rw [h] at hu
    simp only [pC, List.mem_cons, List.not_mem_nil, or_false] at hu
    rcases hu with rfl | rfl <;> rfl
  K_below := fun _ h => h
  K_of_M := fun h => h
  M_mono := fun _ h => h
  M_bound := fun h => h
  M_move := fun _ h => h
  M_lower := fun _ h => h
/-- A row of runs, of one's own. -/
abbrev Op (w0 w : World) (v : Value) (l : List (Int × Int)) : Prop := Own kp 108 w0 w v l
def flat : List (Int × Int) → List Value
  | [] => []
  | p :: l => .int .i64 p.1 :: .int .i64 p.2 :: flat l
theorem flat_len : ∀ l, (flat l).length = l.length * 2
  | [] => rfl
  | p :: l => by
    simp only [flat, List.length_cons, flat_len l]
    omega
theorem flat_app : ∀ a b, flat (a ++ b) = flat a ++ flat b
  | [], b => rfl
  | p :: a, b => by simp only [List.cons_append, flat, flat_app a b]
theorem flat_drop : ∀ (l : List (Int × Int)) (j : Nat), (flat l).drop (j * 2) = flat (l.drop j)
  | l, 0 => by simp
  | [], j + 1 => by simp [flat]
  | p :: l, j + 1 => by
    rw [show (j + 1) * 2 = j * 2 + 1 + 1 by omega]
    simp only [flat, List.drop_succ_cons, flat_drop l j]
theorem flat_take : ∀ (l : List (Int × Int)) (j : Nat), (flat l).take (j * 2) = flat (l.take j)
  | l, 0 => by simp [flat]
  | [], j + 1 => by simp [flat]
  | p :: l, j + 1 => by
    rw [show (j + 1) * 2 = j * 2 + 1 + 1 by omega]
    simp only [flat, List.take_succ_cons, flat_take l j]
theorem reps_flat (R : (Int × Int) → List Value → Prop) (l : List (Int × Int)) (h : ∀ p, R p (pC p)) : Reps R 2 l (flat l) := by
  refine ⟨flat_len l, fun j p hj => ?_⟩
  have hlt : j < l.length := (List.getElem?_eq_some_iff.1 hj).1
  rw [flat_drop, List.drop_eq_getElem_cons hlt]
  have e : l[j] = p := by rw [List.getElem?_eq_getElem hlt] at hj; exact Option.some.inj hj
  rw [e]
  exact h p
theorem flat_of_reps : ∀ (l : List (Int × Int)) (cs : List Value), Reps (fun x c => c = pC x) 2 l cs → cs = flat l
  | [], cs, h => List.eq_nil_of_length_eq_zero (by rw [h.1]; rfl)
  | p :: l, cs, h => by
    have h0 := h.2 0 p rfl
    rw [Nat.zero_mul, List.drop_zero] at h0
    have h1 := flat_of_reps l (cs.drop 2) ⟨by rw [List.length_drop, h.1, List.length_cons]; omega, fun j q hq => by
      have := h.2 (j + 1) q hq
      rw [List.drop_drop]
      rwa [show (j + 1) * 2 = 2 + j * 2 by omega] at this⟩
    rw [← List.take_append_drop 2 cs, h0, h1]
    rfl
theorem op_own {w0 W : World} {v : Value} {xs : List (Int × Int)} (h : Op w0 W v xs) : W.ownsRow w0.heap.size 108 2 v xs.length (flat xs) := by
  obtain ⟨_, inner, ho, hr⟩ := h
  have e := flat_of_reps xs inner hr
  subst e
  exact ho
theorem own_op {w0 W : World} {v : Value} {xs : List (Int × Int)} (h : W.ownsRow w0.heap.size 108 2 v xs.length (flat xs)) : Op w0 W v xs := ⟨fun _ _ => trivial, flat xs, h, reps_flat _ xs (fun _ => rfl)⟩
theorem Op.form {w0 w : World} {v : Value} {l : List (Int × Int)} (h : Op w0 w v l) (hl : 0 < l.length) : ∃ g cap, v = .slice (some ⟨g, 0, none⟩) l.length cap ∧ w0.heap.size ≤ g ∧ g < w.heap.size := by
  obtain ⟨g, cap, hv, hb, hlt⟩ := (op_own h).form hl
  exact ⟨g, cap, hv, hb, hlt⟩
theorem op_lt {w0 w : World} {v : Value} {l : List (Int × Int)} (h : Op w0 w v l) {g : Nat} (hk : v.ownBlock = some g) : g < w.heap.size := by
  obtain ⟨cells, hc⟩ := own_typed (op_own h) g hk
  exact blk_lt hc
abbrev dp : Int × Int := (0, 0)
theorem flat_at : ∀ (l : List (Int × Int)) (j : Nat), j < l.length → (flat l)[j * 2]? = some (.int .i64 (l.getD j dp).1) ∧ (flat l)[j * 2 + 1]? = some (.int .i64 (l.getD j dp).2)
  | p :: l, 0, _ => ⟨rfl, rfl⟩
  | p :: l, j + 1, h => by
    have := flat_at l j (by simpa using h)
    rw [show (j + 1) * 2 = j * 2 + 1 + 1 by omega]
    simp only [flat, List.getElem?_cons_succ, List.getD_cons_succ]
    exact this
theorem Op.at {w0 w : World} {g n cap : Nat} {l : List (Int × Int)} (h : Op w0 w (.slice (some ⟨g, 0, none⟩) n cap) l) (j : Nat) (hj : j < l.length) : w.cell? ⟨g, j * 2, none⟩ = some (.int .i64 (l.getD j dp).1) ∧ w.cell? ⟨g, j * 2 + 1, none⟩ = some (.int .i64 (l.getD j dp).2) ∧ ∀ k, w.frozen? ⟨g, k, none⟩ = false := by
  have ho := op_own h
  obtain ⟨f1, f2⟩ := flat_at l j hj
  refine ⟨?_, ?_, fun k => ?_⟩
  · have hc := ho.cells (g := g) rfl (j * 2) _ f1
    rwa [add_plain] at hc
  · have hc := ho.cells (g := g) rfl (j * 2 + 1) _ f2
    rwa [add_plain] at hc
  · obtain ⟨cells, hc⟩ := own_typed ho g (by simp [Value.ownBlock])
    exact blk_frozen hc _
theorem flat_set : ∀ (l : List (Int × Int)) (j : Nat) (p : Int × Int), ((flat l).set (j * 2) (.int .i64 p.1)).set (j * 2 + 1) (.int .i64 p.2) = flat (l.set j p)
  | [], j, p => by simp [flat]
  | q :: l, 0, p => rfl
  | q :: l, j + 1, p => by
    rw [show (j + 1) * 2 = j * 2 + 1 + 1 by omega]
    simp only [flat, List.set_cons_succ, flat_set l j p]
/-- A run is stored. -/
def put2 (w : World) (g i : Nat) (p : Int × Int) : World := (w.setCell ⟨g, i * 2, none⟩ (.int .i64 p.1)).setCell ⟨g, i * 2 + 1, none⟩ (.int .i64 p.2)
theorem Op.set {w0 w : World} {g n cap : Nat} {l : List (Int × Int)} (h : Op w0 w (.slice (some ⟨g, 0, none⟩) n cap) l) (j : Nat) (p : Int × Int) : Op w0 (put2 w g j p) (.slice (some ⟨g, 0, none⟩) n cap) (l.set j p) ∧ w.grownBy (put2 w g j p) (some g) := by
  have hn : n = l.length := by obtain ⟨A, c, e, _, _⟩ := Own.rk h; injection e
  subst hn
  have hs := (op_own h).stored (j * 2) (.int .i64 p.1)
  have hs2 := hs.1.stored (j * 2 + 1) (.int .i64 p.2)
  refine ⟨own_op ?_, World.grownBy.trans hs.2 hs2.2⟩
  have := hs2.1
  rw [flat_set] at this
  rw [List.length_set]
  exact this
theorem Op.st {w0 w : World} {g n cap : Nat} {l : List (Int × Int)} (h : Op w0 w (.slice (some ⟨g, 0, none⟩) n cap) l) (j : Nat) (hj : j < l.length) (x : Int) :
    (w.setCell ⟨g, j * 2, none⟩ (.int .i64 x)).cell? ⟨g, j * 2 + 1, none⟩ = some (.int .i64 (l.getD j dp).2) ∧ ∀ k, (w.setCell ⟨g, j * 2, none⟩ (.int .i64 x)).frozen? ⟨g, k, none⟩ = false := by
  have hn : n = l.length := by obtain ⟨A, c, e, _, _⟩ := Own.rk h; injection e
  subst hn
  have hs := ((op_own h).stored (j * 2) (.int .i64 x)).1
  refine ⟨?_, fun k => ?_⟩
  · have hc := hs.cells (g := g) rfl (j * 2 + 1) (.int .i64 (l.getD j dp).2) (by rw [List.getElem?_set_ne (by omega)]; exact (flat_at l j hj).2)
    rwa [add_plain] at hc
  · obtain ⟨cells, hc⟩ := own_typed hs g (by simp [Value.ownBlock])
    exact blk_frozen hc _
set_option maxHeartbeats 400000 in
theorem sLen_c (A : Option Addr) (n c : Nat) (w : World) :
   Calls Try.prog 122 #[.slice A n c] w fun e w' => e = .returned (.int .i64 (n : Int)) ∧ w = w' := by
  go_enter Try.func122, Try.ntmps122
  go_wp2
  go_ret
  exact ⟨rfl, rfl⟩
set_option maxRecDepth 100000 in
set_option maxHeartbeats 1600000 in
theorem sLess_c (g n c : Nat) (l : List (Int × Int)) (i j : Nat) (w0 w : World) (hO : Op w0 w (.slice (some ⟨g, 0, none⟩) n c) l) (hl : l.length = n) (hi : i < n) (hj : j < n) :
   Calls Try.prog 123 #[.slice (some ⟨g, 0, none⟩) n c, .int .i64 (i : Int), .int .i64 (j : Int)] w fun e w' => e = .returned (.bool (decide ((l.getD i dp).1 < (l.getD j dp).1))) ∧ Drawn0 w w' := by
  obtain ⟨ci, _, _⟩ := Op.at hO i (by omega)
  obtain ⟨cj, _, _⟩ := Op.at hO j (by omega)
  generalize (l.getD i dp).1 = yi at *
  generalize (l.getD j dp).1 = yj at *
  go_enter Try.func123, Try.ntmps123
  go_wp2_with fail
  go_quiet (fail)
  go_wp2
  go_ret
  exact ⟨rfl, (by repeat (first | exact Drawn0.refl _ | apply Drawn0.step))⟩
set_option maxRecDepth 100000 in
set_option maxHeartbeats 1600000 in
theorem sSwap_c (g n c : Nat) (l : List (Int × Int)) (i j : Nat) (w0 w : World) (hO : Op w0 w (.slice (some ⟨g, 0, none⟩) n c) l) (hB : Below w0.heap.size w0 w) (hl : l.length = n) (hin : i < n) (hjn : j < n) :
   Calls Try.prog 126 #[.slice (some ⟨g, 0, none⟩) n c, .int .i64 (i : Int), .int .i64 (j : Int)] w fun e w' => e = .returned (.tuple #[]) ∧ Op w0 w' (.slice (some ⟨g, 0, none⟩) n c) (Hp.sw dp l i j) ∧ w.grownBy w' (some g) ∧ Below w0.heap.size w0 w' := by
  have hi : i < l.length := by omega
  have hj : j < l.length := by omega
  obtain ⟨ci, ci2, _⟩ := Op.at hO i hi
  obtain ⟨cj, cj2, _⟩ := Op.at hO j hj
  have hsw := Lib.hid (show Hp.sw dp l i j = (l.set i (l.getD j dp)).set j (l.getD i dp) from rfl)
  generalize l.getD i dp = yi at *
  generalize l.getD j dp = yj at *
  go_enter Try.func126, Try.ntmps126
  go_wp2_with fail
  refine wp_region_seq 13 [2, 3] [.slice (some ⟨g, 0, none⟩) n c, .int .i64 (i : Int), .slice (some ⟨g, 0, none⟩) n c, .int .i64 (j : Int), .slice (some ⟨g, 0, none⟩) n c, .int .i64 (j : Int), .pointer (some ⟨g, j * 2, none⟩), .agg #[.int .i64 yj.1, .int .i64 yj.2], .slice (some ⟨g, 0, none⟩) n c, .int .i64 (i : Int), .pointer (some ⟨g, i * 2, none⟩), .agg #[.int .i64 yi.1, .int .i64 yi.2], .pointer (some ⟨g, i * 2, none⟩), undef, .pointer (some ⟨g, j * 2, none⟩), undef] [([], none), ([], none), ([], none), ([], none), ([], none), ([], none), ([(4, some 10), (5, some 11)], none), ([(6, some 12)], none), ([], none), ([], none), ([(8, some 14), (9, some 15)], none), ([(10, some 16)], none), ([(0, some 6), (1, some 7)], none), ([(7, some 13), (12, some 18)], none), ([(2, some 8), (3, some 9)], none), ([(11, some 17), (14, some 19)], none)] [(0, some 6), (1, some 7), (2, some 8), (3, some 9), (4, some 10), (5, some 11), (6, some 12), (7, some 13), (8, some 14), (9, some 15), (10, some 16), (11, some 17), (12, some 18), (13, none), (14, some 19), (15, none)] (fun W => ∃ W', Below w.heap.size w W' ∧ W = put2 W' g i yj) (fun W => ∃ W', Below w.heap.size w W' ∧ W = put2 (put2 W' g i yj) g j yi) (by kernel_rfl) (by kernel_rfl) (by kernel_rfl) (by kernel_rfl) (by kernel_rfl) (by kernel_rfl) (by kernel_rfl) (by kernel_rfl) ⟨.inr (.inr ⟨by decide, .inr ?s0, .inl (by decide)⟩), .inr (.inr ⟨by decide, .inr ?s1, .inl (by decide)⟩), .inr (.inr ⟨by decide, .inr ?s2, .inr ?l2⟩), .inr (.inr ⟨by decide, .inr ?s3, .inr ?l3⟩), .inr (.inr ⟨by decide, .inr ?s4, .inl (by decide)⟩), .inr (.inr ⟨by decide, .inr ?s5, .inl (by decide)⟩), .inr (.inr ⟨by decide, .inr ?s6, .inl (by decide)⟩), .inr (.inr ⟨by decide, .inr ?s7, .inl (by decide)⟩), .inr (.inr ⟨by decide, .inr ?s8, .inl (by decide)⟩), .inr (.inr ⟨by decide, .inr ?s9, .inl (by decide)⟩), .inr (.inr ⟨by decide, .inr ?s10, .inl (by decide)⟩), .inr (.inr ⟨by decide, .inr ?s11, .inl (by decide)⟩), .inr (.inr ⟨by decide, .inr ?s12, .inl (by decide)⟩), .inl ⟨rfl, ?one⟩, .inr (.inr ⟨by decide, .inl (by decide), .inr ?l14⟩), .inr (.inl ⟨rfl, ?two⟩), trivial⟩ ?hQ
  case s0 =>
    intro W hB K hK
    simp only [putC, List.getD_cons_zero, List.getD_cons_succ, Act.put, List.setIfInBounds_toArray, List.set_cons_zero, List.set_cons_succ] at hK ⊢
    refine tell_do rfl ?_
    have q5 := pw_cell_below hB ci; have q6 := pw_cell_below hB cj; have q7 := pw_cell_below hB ci2; have q8 := pw_cell_below hB cj2
    go_simp
    exact hK _ _ ⟨rfl, rfl⟩
  case s1 =>
    intro W hB K hK
    simp only [putC, List.getD_cons_zero, List.getD_cons_succ, Act.put, List.setIfInBounds_toArray, List.set_cons_zero, List.set_cons_succ] at hK ⊢
    refine tell_do rfl ?_
    have q5 := pw_cell_below hB ci; have q6 := pw_cell_below hB cj; have q7 := pw_cell_below hB ci2; have q8 := pw_cell_below hB cj2
    go_simp
    exact hK _ _ ⟨rfl, rfl⟩
  case s2 =>
    intro W hB K hK
    simp only [putC, List.getD_cons_zero, List.getD_cons_succ, Act.put, List.setIfInBounds_toArray, List.set_cons_zero, List.set_cons_succ] at hK ⊢
    refine tell_do rfl ?_
    have q5 := pw_cell_below hB ci; have q6 := pw_cell_below hB cj; have q7 := pw_cell_below hB ci2; have q8 := pw_cell_below hB cj2
    go_simp
    exact hK _ _ ⟨rfl, rfl⟩
  case s3 =>
    intro W hB K hK
    simp only [putC, List.getD_cons_zero, List.getD_cons_succ, Act.put, List.setIfInBounds_toArray, List.set_cons_zero, List.set_cons_succ] at hK ⊢
    refine tell_do rfl ?_
    have q5 := pw_cell_below hB ci; have q6 := pw_cell_below hB cj; have q7 := pw_cell_below hB ci2; have q8 := pw_cell_below hB cj2
    go_simp
    exact hK _ _ ⟨rfl, rfl⟩
  case s4 =>
    intro W hB K hK
    simp only [putC, List.getD_cons_zero, List.getD_cons_succ, Act.put, List.setIfInBounds_toArray, List.set_cons_zero, List.set_cons_succ] at hK ⊢
    refine tell_do rfl ?_
    have q5 := pw_cell_below hB ci; have q6 := pw_cell_below hB cj; have q7 := pw_cell_below hB ci2; have q8 := pw_cell_below hB cj2
    go_simp
    exact hK _ _ ⟨rfl, rfl⟩
  case s5 =>
    intro W hB K hK
    simp only [putC, List.getD_cons_zero, List.getD_cons_succ, Act.put, List.setIfInBounds_toArray, List.set_cons_zero, List.set_cons_succ] at hK ⊢
    refine tell_do rfl ?_
    have q5 := pw_cell_below hB ci; have q6 := pw_cell_below hB cj; have q7 := pw_cell_below hB ci2; have q8 := pw_cell_below hB cj2
    go_simp
    exact hK _ _ ⟨rfl, rfl⟩
  case s6 =>
    intro W hB K hK
    simp only [putC, List.getD_cons_zero, List.getD_cons_succ, Act.put, List.setIfInBounds_toArray, List.set_cons_zero, List.set_cons_succ] at hK ⊢
    refine tell_do rfl ?_
    have q5 := pw_cell_below hB ci; have q6 := pw_cell_below hB cj; have q7 := pw_cell_below hB ci2; have q8 := pw_cell_below hB cj2
    go_simp
    exact hK _ _ ⟨rfl, rfl⟩
  case s7 =>
    intro W hB K hK
    simp only [putC, List.getD_cons_zero, List.getD_cons_succ, Act.put, List.setIfInBounds_toArray, List.set_cons_zero, List.set_cons_succ] at hK ⊢
    refine tell_do rfl ?_
    have q5 := pw_cell_below hB ci; have q6 := pw_cell_below hB cj; have q7 := pw_cell_below hB ci2; have q8 := pw_cell_below hB cj2
    go_simp
    exact hK _ _ ⟨rfl, rfl⟩
  case s8 =>
    intro W hB K hK
    simp only [putC, List.getD_cons_zero, List.getD_cons_succ, Act.put, List.setIfInBounds_toArray, List.set_cons_zero, List.set_cons_succ] at hK ⊢
    refine tell_do rfl ?_
    have q5 := pw_cell_below hB ci; have q6 := pw_cell_below hB cj; have q7 := pw_cell_below hB ci2; have q8 := pw_cell_below hB cj2
    go_simp
    exact hK _ _ ⟨rfl, rfl⟩
  case s9 =>
    intro W hB K hK
    simp only [putC, List.getD_cons_zero, List.getD_cons_succ, Act.put, List.setIfInBounds_toArray, List.set_cons_zero, List.set_cons_succ] at hK ⊢
    refine tell_do rfl ?_
    have q5 := pw_cell_below hB ci; have q6 := pw_cell_below hB cj; have q7 := pw_cell_below hB ci2; have q8 := pw_cell_below hB cj2
    go_simp
    exact hK _ _ ⟨rfl, rfl⟩
  case s10 =>
    intro W hB K hK
    simp only [putC, List.getD_cons_zero, List.getD_cons_succ, Act.put, List.setIfInBounds_toArray, List.set_cons_zero, List.set_cons_succ] at hK ⊢
    refine tell_do rfl ?_
    have q5 := pw_cell_below hB ci; have q6 := pw_cell_below hB cj; have q7 := pw_cell_below hB ci2; have q8 := pw_cell_below hB cj2
    go_simp
    exact hK _ _ ⟨rfl, rfl⟩
  case s11 =>
    intro W hB K hK
    simp only [putC, List.getD_cons_zero, List.getD_cons_succ, Act.put, List.setIfInBounds_toArray, List.set_cons_zero, List.set_cons_succ] at hK ⊢
    refine tell_do rfl ?_
    have q5 := pw_cell_below hB ci; have q6 := pw_cell_below hB cj; have q7 := pw_cell_below hB ci2; have q8 := pw_cell_below hB cj2
    go_simp
    exact hK _ _ ⟨rfl, rfl⟩
  case s12 =>
    intro W hB K hK
    simp only [putC, List.getD_cons_zero, List.getD_cons_succ, Act.put, List.setIfInBounds_toArray, List.set_cons_zero, List.set_cons_succ] at hK ⊢
    refine tell_do rfl ?_
    have q5 := pw_cell_below hB ci; have q6 := pw_cell_below hB cj; have q7 := pw_cell_below hB ci2; have q8 := pw_cell_below hB cj2
    go_simp
    exact hK _ _ ⟨rfl, rfl⟩
  case l2 =>
    intro W hM K hK
    simp only [putC, List.getD_cons_zero, List.getD_cons_succ, Act.put, List.setIfInBounds_toArray, List.set_cons_zero, List.set_cons_succ] at hK ⊢
    refine tell_do rfl ?_
    obtain ⟨W', hB, rfl⟩ := hM
    go_simp
    exact hK _ _ ⟨rfl, rfl⟩
  case l3 =>
    intro W hM K hK
    simp only [putC, List.getD_cons_zero, List.getD_cons_succ, Act.put, List.setIfInBounds_toArray, List.set_cons_zero, List.set_cons_succ] at hK ⊢
    refine tell_do rfl ?_
    obtain ⟨W', hB, rfl⟩ := hM
    go_simp
    exact hK _ _ ⟨rfl, rfl⟩
  case l14 =>
    intro W hM K hK
    simp only [putC, List.getD_cons_zero, List.getD_cons_succ, Act.put, List.setIfInBounds_toArray, List.set_cons_zero, List.set_cons_succ] at hK ⊢
    refine tell_do rfl ?_
    obtain ⟨W', hB, rfl⟩ := hM
    go_simp
    exact hK _ _ ⟨rfl, rfl⟩
  case one =>
    intro W hB K hK
    simp only [putC, List.getD_cons_zero, List.getD_cons_succ, Act.put, List.setIfInBounds_toArray, List.set_cons_zero, List.set_cons_succ] at hK ⊢
    refine tell_do rfl ?_
    obtain ⟨q1, _, q7⟩ := Op.at (Own.below hO hB) i hi
    obtain ⟨q2, q3⟩ := Op.st (Own.below hO hB) i hi yj.1
    go_simp
    exact hK undef _ ⟨W, hB, rfl⟩
  case two =>
    intro W hM K hK
    simp only [putC, List.getD_cons_zero, List.getD_cons_succ, Act.put, List.setIfInBounds_toArray, List.set_cons_zero, List.set_cons_succ] at hK ⊢
    refine tell_do rfl ?_
    obtain ⟨W', hB, rfl⟩ := hM
    have hO2 := (Op.set (Own.below hO hB) i yj).1
    have hj2 : j < (l.set i yj).length := by rw [List.length_set]; exact hj
    obtain ⟨q1, _, q7⟩ := Op.at hO2 j hj2
    obtain ⟨q2, q3⟩ := Op.st hO2 j hj2 yi.1
    go_simp
    exact hK undef _ ⟨W', hB, rfl⟩
  case hQ =>
    intro W hM
    simp only [putC, List.getD_cons_zero, List.getD_cons_succ, Act.put, List.setIfInBounds_toArray, List.set_cons_zero, List.set_cons_succ]
    obtain ⟨W', hB', rfl⟩ := hM
    have h1 := Op.set (Own.below hO hB') i yj
    have h2 := Op.set h1.1 j yi
    have hg0 := op_lt hO (g := g) rfl
    go_wp2
    go_end0
    rw [hsw.out]
    have hgw : w0.heap.size ≤ g := own_base (op_own hO) g rfl
    exact ⟨rfl, h2.1, World.grownBy.trans (grown_of_below hB' _) (World.grownBy.trans h1.2 h2.2), below_set (below_set (below_set (below_set (bt_ hB hB') hgw) hgw) hgw) hgw⟩
end Go.Proofs.Ytacbenjfiabegaa
