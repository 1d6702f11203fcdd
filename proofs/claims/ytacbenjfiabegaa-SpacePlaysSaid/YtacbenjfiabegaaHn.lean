/- The walks of choose's numbers: Len, Less, Swap. -/
import Derived.Test.YtacbenjfiabegaaHp
import Derived.Test.YtacbenjfiabegaaMe
import Derived.Test.YtacbenjfiabegaaFs
namespace Go.Proofs.Ytacbenjfiabegaa
set_option linter.unusedVariables false
set_option linter.unusedSimpArgs false
open Go.RowKit Go.Proofs.YtacbenjfiabegaaW.PrintWords Go.Proofs.Sh

theorem Oi.at {w0 w : World} {g n cap : Nat} {l : List Int} (h : Oi w0 w (.slice (some ⟨g, 0, none⟩) n cap) l) (j : Nat) (hj : j < l.length) : w.cell? ⟨g, j, none⟩ = some (.int .i64 (l.getD j 0)) ∧ w.frozen? ⟨g, j, none⟩ = false := by
  have ho := oi_own h
  constructor
  · have hc := ho.cells (g := g) rfl j (.int .i64 (l.getD j 0)) (by simp [List.getElem?_eq_getElem hj, List.getD_eq_getElem?_getD])
    rwa [add_plain] at hc
  · obtain ⟨cells, hc⟩ := own_typed ho g (by simp [Value.ownBlock])
    exact blk_frozen hc _
theorem Oi.set {w0 w : World} {g n cap : Nat} {l : List Int} (h : Oi w0 w (.slice (some ⟨g, 0, none⟩) n cap) l) (j : Nat) (x : Int) : Oi w0 (w.setCell ⟨g, j, none⟩ (.int .i64 x)) (.slice (some ⟨g, 0, none⟩) n cap) (l.set j x) ∧ w.grownBy (w.setCell ⟨g, j, none⟩ (.int .i64 x)) (some g) := by
  have hn : n = l.length := by obtain ⟨A, c, e, _, _⟩ := Own.rk h; injection e
  subst hn
  have hs := (oi_own h).stored j (.int .i64 x)
  refine ⟨own_oi ?_, hs.2⟩
  have := hs.1
  rw [List.length_set, List.map_set]
  exact this
set_option maxHeartbeats 400000 in
theorem nLen_c (A : Option Addr) (n c : Nat) (w : World) :
   Calls Try.prog 127 #[.slice A n c] w fun e w' => e = .returned (.int .i64 (n : Int)) ∧ w = w' := by
  go_enter Try.func127, Try.ntmps127
  go_wp2
  go_ret
  exact ⟨rfl, rfl⟩
set_option maxRecDepth 100000 in
set_option maxHeartbeats 1600000 in
theorem nLess_c (g n c : Nat) (l : List Int) (i j : Nat) (w0 w : World) (hO : Oi w0 w (.slice (some ⟨g, 0, none⟩) n c) l) (hl : l.length = n) (hi : i < n) (hj : j < n) :
   Calls Try.prog 128 #[.slice (some ⟨g, 0, none⟩) n c, .int .i64 (i : Int), .int .i64 (j : Int)] w fun e w' => e = .returned (.bool (decide (l.getD i 0 < l.getD j 0))) ∧ Drawn0 w w' := by
  obtain ⟨ci, _⟩ := hO.at i (by omega)
  obtain ⟨cj, _⟩ := hO.at j (by omega)
  generalize l.getD i 0 = yi at *
  generalize l.getD j 0 = yj at *
  go_enter Try.func128, Try.ntmps128
  go_wp2_with fail
  go_quiet (fail)
  go_wp2
  go_ret
  exact ⟨rfl, (by repeat (first | exact Drawn0.refl _ | apply Drawn0.step))⟩
set_option maxRecDepth 100000 in
set_option maxHeartbeats 1600000 in
theorem nSwap_c (g n c : Nat) (l : List Int) (i j : Nat) (w0 w : World) (hO : Oi w0 w (.slice (some ⟨g, 0, none⟩) n c) l) (hB : Below w0.heap.size w0 w) (hl : l.length = n) (hin : i < n) (hjn : j < n) :
   Calls Try.prog 131 #[.slice (some ⟨g, 0, none⟩) n c, .int .i64 (i : Int), .int .i64 (j : Int)] w fun e w' => e = .returned (.tuple #[]) ∧ Oi w0 w' (.slice (some ⟨g, 0, none⟩) n c) (Hp.sw 0 l i j) ∧ w.grownBy w' (some g) ∧ Below w0.heap.size w0 w' := by
  have hi : i < l.length := by omega
  have hj : j < l.length := by omega
  obtain ⟨ci, _⟩ := hO.at i hi
  obtain ⟨cj, _⟩ := hO.at j hj
  have hsw := Lib.hid (show Hp.sw 0 l i j = (l.set i (l.getD j 0)).set j (l.getD i 0) from rfl)
  generalize l.getD i 0 = yi at *
  generalize l.getD j 0 = yj at *
  go_enter Try.func131, Try.ntmps131
  go_wp2_with fail
  refine wp_region_seq 13 [2, 3] [.slice (some ⟨g, 0, none⟩) n c, .int .i64 (i : Int), .slice (some ⟨g, 0, none⟩) n c, .int .i64 (j : Int), .slice (some ⟨g, 0, none⟩) n c, .int .i64 (j : Int), .pointer (some ⟨g, j, none⟩), .int .i64 yj, .slice (some ⟨g, 0, none⟩) n c, .int .i64 (i : Int), .pointer (some ⟨g, i, none⟩), .int .i64 yi, .pointer (some ⟨g, i, none⟩), undef, .pointer (some ⟨g, j, none⟩), undef] [([], none), ([], none), ([], none), ([], none), ([], none), ([], none), ([(4, some 10), (5, some 11)], none), ([(6, some 12)], none), ([], none), ([], none), ([(8, some 14), (9, some 15)], none), ([(10, some 16)], none), ([(0, some 6), (1, some 7)], none), ([(7, some 13), (12, some 18)], none), ([(2, some 8), (3, some 9)], none), ([(11, some 17), (14, some 19)], none)] [(0, some 6), (1, some 7), (2, some 8), (3, some 9), (4, some 10), (5, some 11), (6, some 12), (7, some 13), (8, some 14), (9, some 15), (10, some 16), (11, some 17), (12, some 18), (13, none), (14, some 19), (15, none)] (fun W => ∃ W', Below w.heap.size w W' ∧ W = W'.setCell ⟨g, i, none⟩ (.int .i64 yj)) (fun W => ∃ W', Below w.heap.size w W' ∧ W = (W'.setCell ⟨g, i, none⟩ (.int .i64 yj)).setCell ⟨g, j, none⟩ (.int .i64 yi)) (by kernel_rfl) (by kernel_rfl) (by kernel_rfl) (by kernel_rfl) (by kernel_rfl) (by kernel_rfl) (by kernel_rfl) (by kernel_rfl) ⟨.inr (.inr ⟨by decide, .inr ?s0, .inl (by decide)⟩), .inr (.inr ⟨by decide, .inr ?s1, .inl (by decide)⟩), .inr (.inr ⟨by decide, .inr ?s2, .inr ?l2⟩), .inr (.inr ⟨by decide, .inr ?s3, .inr ?l3⟩), .inr (.inr ⟨by decide, .inr ?s4, .inl (by decide)⟩), .inr (.inr ⟨by decide, .inr ?s5, .inl (by decide)⟩), .inr (.inr ⟨by decide, .inr ?s6, .inl (by decide)⟩), .inr (.inr ⟨by decide, .inr ?s7, .inl (by decide)⟩), .inr (.inr ⟨by decide, .inr ?s8, .inl (by decide)⟩), .inr (.inr ⟨by decide, .inr ?s9, .inl (by decide)⟩), .inr (.inr ⟨by decide, .inr ?s10, .inl (by decide)⟩), .inr (.inr ⟨by decide, .inr ?s11, .inl (by decide)⟩), .inr (.inr ⟨by decide, .inr ?s12, .inl (by decide)⟩), .inl ⟨rfl, ?one⟩, .inr (.inr ⟨by decide, .inl (by decide), .inr ?l14⟩), .inr (.inl ⟨rfl, ?two⟩), trivial⟩ ?hQ
  case s0 =>
    intro W hB K hK
    simp only [putC, List.getD_cons_zero, List.getD_cons_succ, Act.put, List.setIfInBounds_toArray, List.set_cons_zero, List.set_cons_succ] at hK ⊢
    refine tell_do rfl ?_
    have q5 := pw_cell_below hB ci; have q6 := pw_cell_below hB cj
    go_simp
    exact hK _ _ ⟨rfl, rfl⟩
  case s1 =>
    intro W hB K hK
    simp only [putC, List.getD_cons_zero, List.getD_cons_succ, Act.put, List.setIfInBounds_toArray, List.set_cons_zero, List.set_cons_succ] at hK ⊢
    refine tell_do rfl ?_
    have q5 := pw_cell_below hB ci; have q6 := pw_cell_below hB cj
    go_simp
    exact hK _ _ ⟨rfl, rfl⟩
  case s2 =>
    intro W hB K hK
    simp only [putC, List.getD_cons_zero, List.getD_cons_succ, Act.put, List.setIfInBounds_toArray, List.set_cons_zero, List.set_cons_succ] at hK ⊢
    refine tell_do rfl ?_
    have q5 := pw_cell_below hB ci; have q6 := pw_cell_below hB cj
    go_simp
    exact hK _ _ ⟨rfl, rfl⟩
  case s3 =>
    intro W hB K hK
    simp only [putC, List.getD_cons_zero, List.getD_cons_succ, Act.put, List.setIfInBounds_toArray, List.set_cons_zero, List.set_cons_succ] at hK ⊢
    refine tell_do rfl ?_
    have q5 := pw_cell_below hB ci; have q6 := pw_cell_below hB cj
    go_simp
    exact hK _ _ ⟨rfl, rfl⟩
  case s4 =>
    intro W hB K hK
    simp only [putC, List.getD_cons_zero, List.getD_cons_succ, Act.put, List.setIfInBounds_toArray, List.set_cons_zero, List.set_cons_succ] at hK ⊢
    refine tell_do rfl ?_
    have q5 := pw_cell_below hB ci; have q6 := pw_cell_below hB cj
    go_simp
    exact hK _ _ ⟨rfl, rfl⟩
  case s5 =>
    intro W hB K hK
    simp only [putC, List.getD_cons_zero, List.getD_cons_succ, Act.put, List.setIfInBounds_toArray, List.set_cons_zero, List.set_cons_succ] at hK ⊢
    refine tell_do rfl ?_
    have q5 := pw_cell_below hB ci; have q6 := pw_cell_below hB cj
    go_simp
    exact hK _ _ ⟨rfl, rfl⟩
  case s6 =>
    intro W hB K hK
    simp only [putC, List.getD_cons_zero, List.getD_cons_succ, Act.put, List.setIfInBounds_toArray, List.set_cons_zero, List.set_cons_succ] at hK ⊢
    refine tell_do rfl ?_
    have q5 := pw_cell_below hB ci; have q6 := pw_cell_below hB cj
    go_simp
    exact hK _ _ ⟨rfl, rfl⟩
  case s7 =>
    intro W hB K hK
    simp only [putC, List.getD_cons_zero, List.getD_cons_succ, Act.put, List.setIfInBounds_toArray, List.set_cons_zero, List.set_cons_succ] at hK ⊢
    refine tell_do rfl ?_
    have q5 := pw_cell_below hB ci; have q6 := pw_cell_below hB cj
    go_simp
    exact hK _ _ ⟨rfl, rfl⟩
  case s8 =>
    intro W hB K hK
    simp only [putC, List.getD_cons_zero, List.getD_cons_succ, Act.put, List.setIfInBounds_toArray, List.set_cons_zero, List.set_cons_succ] at hK ⊢
    refine tell_do rfl ?_
    have q5 := pw_cell_below hB ci; have q6 := pw_cell_below hB cj
    go_simp
    exact hK _ _ ⟨rfl, rfl⟩
  case s9 =>
    intro W hB K hK
    simp only [putC, List.getD_cons_zero, List.getD_cons_succ, Act.put, List.setIfInBounds_toArray, List.set_cons_zero, List.set_cons_succ] at hK ⊢
    refine tell_do rfl ?_
    have q5 := pw_cell_below hB ci; have q6 := pw_cell_below hB cj
    go_simp
    exact hK _ _ ⟨rfl, rfl⟩
  case s10 =>
    intro W hB K hK
    simp only [putC, List.getD_cons_zero, List.getD_cons_succ, Act.put, List.setIfInBounds_toArray, List.set_cons_zero, List.set_cons_succ] at hK ⊢
    refine tell_do rfl ?_
    have q5 := pw_cell_below hB ci; have q6 := pw_cell_below hB cj
    go_simp
    exact hK _ _ ⟨rfl, rfl⟩
  case s11 =>
    intro W hB K hK
    simp only [putC, List.getD_cons_zero, List.getD_cons_succ, Act.put, List.setIfInBounds_toArray, List.set_cons_zero, List.set_cons_succ] at hK ⊢
    refine tell_do rfl ?_
    have q5 := pw_cell_below hB ci; have q6 := pw_cell_below hB cj
    go_simp
    exact hK _ _ ⟨rfl, rfl⟩
  case s12 =>
    intro W hB K hK
    simp only [putC, List.getD_cons_zero, List.getD_cons_succ, Act.put, List.setIfInBounds_toArray, List.set_cons_zero, List.set_cons_succ] at hK ⊢
    refine tell_do rfl ?_
    have q5 := pw_cell_below hB ci; have q6 := pw_cell_below hB cj
    go_simp
    exact hK _ _ ⟨rfl, rfl⟩
  case l2 =>
    intro W hM K hK
    simp only [putC, List.getD_cons_zero, List.getD_cons_succ, Act.put, List.setIfInBounds_toArray, List.set_cons_zero, List.set_cons_succ] at hK ⊢
    refine tell_do rfl ?_
    obtain ⟨W', hB, rfl⟩ := hM
    go_simp
    exact hK _ _ ⟨rfl, rfl⟩
  case l3 =>
    intro W hM K hK
    simp only [putC, List.getD_cons_zero, List.getD_cons_succ, Act.put, List.setIfInBounds_toArray, List.set_cons_zero, List.set_cons_succ] at hK ⊢
    refine tell_do rfl ?_
    obtain ⟨W', hB, rfl⟩ := hM
    go_simp
    exact hK _ _ ⟨rfl, rfl⟩
  case l14 =>
    intro W hM K hK
    simp only [putC, List.getD_cons_zero, List.getD_cons_succ, Act.put, List.setIfInBounds_toArray, List.set_cons_zero, List.set_cons_succ] at hK ⊢
    refine tell_do rfl ?_
    obtain ⟨W', hB, rfl⟩ := hM
    go_simp
    exact hK _ _ ⟨rfl, rfl⟩
  case one =>
    intro W hB K hK
    simp only [putC, List.getD_cons_zero, List.getD_cons_succ, Act.put, List.setIfInBounds_toArray, List.set_cons_zero, List.set_cons_succ] at hK ⊢
    refine tell_do rfl ?_
    have q5 := pw_cell_below hB ci
    have q7 := (Oi.at (Own.below hO hB) i hi).2
    go_simp
    exact hK undef _ ⟨W, hB, rfl⟩
  case two =>
    intro W hM K hK
    simp only [putC, List.getD_cons_zero, List.getD_cons_succ, Act.put, List.setIfInBounds_toArray, List.set_cons_zero, List.set_cons_succ] at hK ⊢
    refine tell_do rfl ?_
    obtain ⟨W', hB, rfl⟩ := hM
    obtain ⟨q5, q6⟩ := Oi.at (Oi.set (Own.below hO hB) i yj).1 j (by rw [List.length_set]; exact hj)
    go_simp
    exact hK undef _ ⟨W', hB, rfl⟩
  case hQ =>
    intro W hM
    simp only [putC, List.getD_cons_zero, List.getD_cons_succ, Act.put, List.setIfInBounds_toArray, List.set_cons_zero, List.set_cons_succ]
    obtain ⟨W', hB', rfl⟩ := hM
    have h1 := Oi.set (Own.below hO hB') i yj
    have h2 := Oi.set h1.1 j yi
    have hg0 := oi_lt hO (g := g) rfl
    go_wp2
    go_end0
    rw [hsw.out]
    have hgw : w0.heap.size ≤ g := own_base (oi_own hO) g rfl
    exact ⟨rfl, h2.1, World.grownBy.trans (grown_of_below hB' _) (World.grownBy.trans h1.2 h2.2), below_set (below_set (bt_ hB hB') hgw) hgw⟩
end Go.Proofs.Ytacbenjfiabegaa
