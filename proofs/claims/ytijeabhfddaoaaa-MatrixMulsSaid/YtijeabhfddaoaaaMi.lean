/- The walk of what matrix.Inverse does to both matrices: two rows change places, and one is taken so many times. -/
import Derived.Test.YtijeabhfddaoaaaMw
import Derived.Test.YtijeabhfddaoaaaFs
namespace Go.Proofs.Ytijeabhfddaoaaa
set_option linter.unusedVariables false
set_option linter.unusedSimpArgs false
open Go.RowKit Go.Proofs.YtijeabhfddaoaaaW.PrintWords Go.Proofs.Sh

/-- What is kept where rows are changed: every block but the row's, and its rows' own. -/
structure Frm (g n : Nat) (vs : Nat → Value) (w w' : World) : Prop where
  row : ∀ (w0 : World) (v : Value) (l : List F), Ob w0 w v l → some g ≠ v.ownBlock → (∀ j, j < n → v.ownBlock = none ∨ v.ownBlock ≠ (vs j).ownBlock) → Ob w0 w' v l
  blk : ∀ (b : Nat) (cs : Array Value) (t : TypeId), Blk w b cs t → b ≠ g → (∀ j, j < n → some b ≠ (vs j).ownBlock) → Blk w' b cs t
section
variable {w0 w w1 w2 : World} {g h n : Nat} {vs us : Nat → Value} {ls ms : Nat → List F}
theorem Frm.trans (a : Frm g n vs w w1) (b : Frm g n vs w1 w2) : Frm g n vs w w2 :=
  ⟨fun w0 v l h h1 h2 => b.row w0 v l (a.row w0 v l h h1 h2) h1 h2, fun q cs t h h1 h2 => b.blk q cs t (a.blk q cs t h h1 h2) h1 h2⟩
theorem Frm.of_below (h : Below w.heap.size w w1) : Frm g n vs w w1 := ⟨fun _ _ _ h1 _ _ => h1.below h, fun _ _ _ h1 _ _ => Blk.below h1 h⟩
theorem Frm.of_grown (k : Nat) (hk : k < n) (hg : w.grownBy w1 (vs k).ownBlock) : Frm g n vs w w1 :=
  ⟨fun w0 v l h _ h2 => b_own (own_other (own_b h) hg (h2 k hk)), fun b cs t h _ h2 => blk_grown h hg (h2 k hk)⟩
theorem Frm.of_put (i : Nat) (u : Value) : Frm g n vs w (w.setCell ⟨g, i, none⟩ u) := ⟨fun w0 v l h h1 _ => Rk.far h h1 i u, fun b cs t h h1 _ => Blk.far h h1 i u⟩
theorem Frm.perm (hp : ∀ j, j < n → ∃ j', j' < n ∧ us j = vs j') (a : Frm g n us w w1) : Frm g n vs w w1 :=
  ⟨fun w0 v l h h1 h2 => a.row w0 v l h h1 (fun j hj => by obtain ⟨j', h3, e⟩ := hp j hj; rw [e]; exact h2 j' h3),
   fun b cs t h h1 h2 => a.blk b cs t h h1 (fun j hj => by obtain ⟨j', h3, e⟩ := hp j hj; rw [e]; exact h2 j' h3)⟩
theorem Frm.rws (a : Frm g n vs w w1) (hL : Rws w0 w g n vs ls) (hR : Rws w0 w h n us ms) (hgh : g ≠ h) (hap : ∀ i j, i < n → j < n → NeRow (vs i) (us j)) : Rws w0 w1 h n us ms := by
  obtain ⟨cs, hc, hs, hcs⟩ := hR.blk
  obtain ⟨cs', hc', hs', hcs'⟩ := hL.blk
  refine ⟨hR.base, ⟨cs, a.blk h cs _ hc (fun e => hgh e.symm) (fun j hj => own_ne (own_b (hL.own j hj)) hc (by decide)), hs, hcs⟩, fun j hj => ?_, hR.apart⟩
  exact a.row w0 _ _ (hR.own j hj) (own_ne (own_b (hR.own j hj)) hc' (by decide)) (fun i hi => ne_other (hap i j hi hj))
theorem swv_is {α : Type} (vs : Nat → α) (i k : Nat) (hi : i < n) (hk : k < n) : ∀ j, j < n → ∃ j', j' < n ∧ swv vs i k j = vs j' := fun j hj => by
  unfold swv
  split
  · exact ⟨i, hi, rfl⟩
  · split
    · exact ⟨k, hk, rfl⟩
    · exact ⟨j, hj, rfl⟩
theorem sw_rw (a : F.Mx) (i k : Nat) (x : F) (r : Nat) : (if r = k then rw_ n (fun j => a i j * x) else swv (fun r => rw_ n (a r)) i k r) = rw_ n (F.scl (F.swp a i k) k x r) := by
  unfold swv F.scl F.swp
  by_cases e : r = k
  · subst e
    simp only [if_pos]
    by_cases e2 : r = i
    · subst e2
      simp
    · simp [e2]
  · by_cases e2 : r = i
    · subst e2
      simp [e]
    · simp [e, e2]
theorem cell_far {bk j : Nat} {u v : Value} (h : w.cell? ⟨bk, 0, none⟩ = some v) (hne : bk ≠ g) : (w.setCell ⟨g, j, none⟩ u).cell? ⟨bk, 0, none⟩ = some v := by
  exact (Go.Proofs.YtijeabhfddaoaaaW.PrintWords.cell_far (p := ⟨g, j, none⟩) (a := ⟨bk, 0, none⟩) hne u).trans h
theorem put_slot {ws : Nat → Value} (h : ∃ cs : Array Value, w.heap[g]? = some (.cells cs 40 (0, 0)) ∧ cs.size = n ∧ ∀ j, j < n → cs[j]? = some (ws j)) (k : Nat) (hk : k < n) : w.cell? ⟨g, k, none⟩ = some (ws k) ∧ w.frozen? ⟨g, k, none⟩ = false := by
  obtain ⟨cs, hc, hs, hcs⟩ := h
  exact ⟨by rw [blk_cell hc, hcs k hk], blk_frozen hc _⟩
end
set_option maxRecDepth 100000 in
set_option maxHeartbeats 3200000 in
theorem inv2_c (b9 bf bi bk bc g n i k : Nat) (vs : Nat → Value) (a : F.Mx) (x : F) (w0 w : World) (hF : IsField w0 b9) (hin : i < n) (hkn : k < n) (hn : n ≤ 1000) (hR : Rws w0 w g n vs (fun r => rw_ n (a r))) (hB : Below w0.heap.size w0 w)
   (fB : Blk w bf #[fp b9] 22) (iB : Blk w bi #[.int .i64 (i : Int)] 3) (kB : Blk w bk #[.int .i64 (k : Int)] 3) (cB : Blk w bc #[.int .u8 (x.n : Int)] 5) (hbc : ∀ j, j < n → some bc ≠ (vs j).ownBlock) :
   Calls Try.prog 175 #[.slice (some ⟨g, 0, none⟩) n n, .pointer (some ⟨bk, 0, none⟩), .pointer (some ⟨bi, 0, none⟩), .pointer (some ⟨bf, 0, none⟩), .pointer (some ⟨bc, 0, none⟩)] w fun e w' => e = .returned (.tuple #[]) ∧
     Rws w0 w' g n (swv vs i k) (fun r => rw_ n (F.scl (F.swp a i k) k (F.inv x) r)) ∧ Frm g n vs w w' ∧ Below w0.heap.size w0 w' := by
  have i0 := iB.one
  have k0 := kB.one
  have nk := hR.ne_blk kB (by decide)
  have nf := hR.ne_blk fB (by decide)
  have nc := hR.ne_blk cB (by decide)
  obtain ⟨Ai, ci, eI⟩ := rk_form (hR.own i hin).rk
  obtain ⟨Ak, ck, eK⟩ := rk_form (hR.own k hkn).rk
  rw [rw_len] at eI eK
  go_enter Try.func175, Try.ntmps175
  go_wp2_with fail
  refine wp_region_seq 13 [2, 3] [.slice (some ⟨g, 0, none⟩) n n, .int .i64 (i : Int), .slice (some ⟨g, 0, none⟩) n n, .int .i64 (k : Int), .slice (some ⟨g, 0, none⟩) n n, .int .i64 (k : Int), .pointer (some ⟨g, k, none⟩), .slice Ak n ck, .slice (some ⟨g, 0, none⟩) n n, .int .i64 (i : Int), .pointer (some ⟨g, i, none⟩), .slice Ai n ci, .pointer (some ⟨g, i, none⟩), undef, .pointer (some ⟨g, k, none⟩), undef] [([], none), ([], none), ([], none), ([], none), ([], none), ([], none), ([(4, some 10), (5, some 11)], none), ([(6, some 12)], none), ([], none), ([], none), ([(8, some 14), (9, some 15)], none), ([(10, some 16)], none), ([(0, some 6), (1, some 7)], none), ([(7, some 13), (12, some 18)], none), ([(2, some 8), (3, some 9)], none), ([(11, some 17), (14, some 19)], none)] [(0, some 6), (1, some 7), (2, some 8), (3, some 9), (4, some 10), (5, some 11), (6, some 12), (7, some 13), (8, some 14), (9, some 15), (10, some 16), (11, some 17), (12, some 18), (13, none), (14, some 19), (15, none)] (fun W => ∃ W', Below w.heap.size w W' ∧ W = W'.setCell ⟨g, i, none⟩ (.slice Ak n ck)) (fun W => ∃ W', Below w.heap.size w W' ∧ W = (W'.setCell ⟨g, i, none⟩ (.slice Ak n ck)).setCell ⟨g, k, none⟩ (.slice Ai n ci)) (by kernel_rfl) (by kernel_rfl) (by kernel_rfl) (by kernel_rfl) (by kernel_rfl) (by kernel_rfl) (by kernel_rfl) (by kernel_rfl) ⟨.inr (.inr ⟨by decide, .inr ?s0, .inl (by decide)⟩), .inr (.inr ⟨by decide, .inr ?s1, .inl (by decide)⟩), .inr (.inr ⟨by decide, .inr ?s2, .inr ?l2⟩), .inr (.inr ⟨by decide, .inr ?s3, .inr ?l3⟩), .inr (.inr ⟨by decide, .inr ?s4, .inl (by decide)⟩), .inr (.inr ⟨by decide, .inr ?s5, .inl (by decide)⟩), .inr (.inr ⟨by decide, .inr ?s6, .inl (by decide)⟩), .inr (.inr ⟨by decide, .inr ?s7, .inl (by decide)⟩), .inr (.inr ⟨by decide, .inr ?s8, .inl (by decide)⟩), .inr (.inr ⟨by decide, .inr ?s9, .inl (by decide)⟩), .inr (.inr ⟨by decide, .inr ?s10, .inl (by decide)⟩), .inr (.inr ⟨by decide, .inr ?s11, .inl (by decide)⟩), .inr (.inr ⟨by decide, .inr ?s12, .inl (by decide)⟩), .inl ⟨rfl, ?one⟩, .inr (.inr ⟨by decide, .inl (by decide), .inr ?l14⟩), .inr (.inl ⟨rfl, ?two⟩), trivial⟩ ?hQ
  case s0 =>
    intro W hB K hK
    simp only [putC, List.getD_cons_zero, List.getD_cons_succ, Act.put, List.setIfInBounds_toArray, List.set_cons_zero, List.set_cons_succ] at hK ⊢
    refine tell_do rfl ?_
    have i1 := pw_cell_below hB i0; have k1 := pw_cell_below hB k0; have q5 := (hR.below hB).cell i hin; have q6 := (hR.below hB).cell k hkn; rw [eI] at q5; rw [eK] at q6
    go_simp
    exact hK _ _ ⟨rfl, rfl⟩
  case s1 =>
    intro W hB K hK
    simp only [putC, List.getD_cons_zero, List.getD_cons_succ, Act.put, List.setIfInBounds_toArray, List.set_cons_zero, List.set_cons_succ] at hK ⊢
    refine tell_do rfl ?_
    have i1 := pw_cell_below hB i0; have k1 := pw_cell_below hB k0; have q5 := (hR.below hB).cell i hin; have q6 := (hR.below hB).cell k hkn; rw [eI] at q5; rw [eK] at q6
    go_simp
    exact hK _ _ ⟨rfl, rfl⟩
  case s2 =>
    intro W hB K hK
    simp only [putC, List.getD_cons_zero, List.getD_cons_succ, Act.put, List.setIfInBounds_toArray, List.set_cons_zero, List.set_cons_succ] at hK ⊢
    refine tell_do rfl ?_
    have i1 := pw_cell_below hB i0; have k1 := pw_cell_below hB k0; have q5 := (hR.below hB).cell i hin; have q6 := (hR.below hB).cell k hkn; rw [eI] at q5; rw [eK] at q6
    go_simp
    exact hK _ _ ⟨rfl, rfl⟩
  case s3 =>
    intro W hB K hK
    simp only [putC, List.getD_cons_zero, List.getD_cons_succ, Act.put, List.setIfInBounds_toArray, List.set_cons_zero, List.set_cons_succ] at hK ⊢
    refine tell_do rfl ?_
    have i1 := pw_cell_below hB i0; have k1 := pw_cell_below hB k0; have q5 := (hR.below hB).cell i hin; have q6 := (hR.below hB).cell k hkn; rw [eI] at q5; rw [eK] at q6
    go_simp
    exact hK _ _ ⟨rfl, rfl⟩
  case s4 =>
    intro W hB K hK
    simp only [putC, List.getD_cons_zero, List.getD_cons_succ, Act.put, List.setIfInBounds_toArray, List.set_cons_zero, List.set_cons_succ] at hK ⊢
    refine tell_do rfl ?_
    have i1 := pw_cell_below hB i0; have k1 := pw_cell_below hB k0; have q5 := (hR.below hB).cell i hin; have q6 := (hR.below hB).cell k hkn; rw [eI] at q5; rw [eK] at q6
    go_simp
    exact hK _ _ ⟨rfl, rfl⟩
  case s5 =>
    intro W hB K hK
    simp only [putC, List.getD_cons_zero, List.getD_cons_succ, Act.put, List.setIfInBounds_toArray, List.set_cons_zero, List.set_cons_succ] at hK ⊢
    refine tell_do rfl ?_
    have i1 := pw_cell_below hB i0; have k1 := pw_cell_below hB k0; have q5 := (hR.below hB).cell i hin; have q6 := (hR.below hB).cell k hkn; rw [eI] at q5; rw [eK] at q6
    go_simp
    exact hK _ _ ⟨rfl, rfl⟩
  case s6 =>
    intro W hB K hK
    simp only [putC, List.getD_cons_zero, List.getD_cons_succ, Act.put, List.setIfInBounds_toArray, List.set_cons_zero, List.set_cons_succ] at hK ⊢
    refine tell_do rfl ?_
    have i1 := pw_cell_below hB i0; have k1 := pw_cell_below hB k0; have q5 := (hR.below hB).cell i hin; have q6 := (hR.below hB).cell k hkn; rw [eI] at q5; rw [eK] at q6
    go_simp
    exact hK _ _ ⟨rfl, rfl⟩
  case s7 =>
    intro W hB K hK
    simp only [putC, List.getD_cons_zero, List.getD_cons_succ, Act.put, List.setIfInBounds_toArray, List.set_cons_zero, List.set_cons_succ] at hK ⊢
    refine tell_do rfl ?_
    have i1 := pw_cell_below hB i0; have k1 := pw_cell_below hB k0; have q5 := (hR.below hB).cell i hin; have q6 := (hR.below hB).cell k hkn; rw [eI] at q5; rw [eK] at q6
    go_simp
    exact hK _ _ ⟨rfl, rfl⟩
  case s8 =>
    intro W hB K hK
    simp only [putC, List.getD_cons_zero, List.getD_cons_succ, Act.put, List.setIfInBounds_toArray, List.set_cons_zero, List.set_cons_succ] at hK ⊢
    refine tell_do rfl ?_
    have i1 := pw_cell_below hB i0; have k1 := pw_cell_below hB k0; have q5 := (hR.below hB).cell i hin; have q6 := (hR.below hB).cell k hkn; rw [eI] at q5; rw [eK] at q6
    go_simp
    exact hK _ _ ⟨rfl, rfl⟩
  case s9 =>
    intro W hB K hK
    simp only [putC, List.getD_cons_zero, List.getD_cons_succ, Act.put, List.setIfInBounds_toArray, List.set_cons_zero, List.set_cons_succ] at hK ⊢
    refine tell_do rfl ?_
    have i1 := pw_cell_below hB i0; have k1 := pw_cell_below hB k0; have q5 := (hR.below hB).cell i hin; have q6 := (hR.below hB).cell k hkn; rw [eI] at q5; rw [eK] at q6
    go_simp
    exact hK _ _ ⟨rfl, rfl⟩
  case s10 =>
    intro W hB K hK
    simp only [putC, List.getD_cons_zero, List.getD_cons_succ, Act.put, List.setIfInBounds_toArray, List.set_cons_zero, List.set_cons_succ] at hK ⊢
    refine tell_do rfl ?_
    have i1 := pw_cell_below hB i0; have k1 := pw_cell_below hB k0; have q5 := (hR.below hB).cell i hin; have q6 := (hR.below hB).cell k hkn; rw [eI] at q5; rw [eK] at q6
    go_simp
    exact hK _ _ ⟨rfl, rfl⟩
  case s11 =>
    intro W hB K hK
    simp only [putC, List.getD_cons_zero, List.getD_cons_succ, Act.put, List.setIfInBounds_toArray, List.set_cons_zero, List.set_cons_succ] at hK ⊢
    refine tell_do rfl ?_
    have i1 := pw_cell_below hB i0; have k1 := pw_cell_below hB k0; have q5 := (hR.below hB).cell i hin; have q6 := (hR.below hB).cell k hkn; rw [eI] at q5; rw [eK] at q6
    go_simp
    exact hK _ _ ⟨rfl, rfl⟩
  case s12 =>
    intro W hB K hK
    simp only [putC, List.getD_cons_zero, List.getD_cons_succ, Act.put, List.setIfInBounds_toArray, List.set_cons_zero, List.set_cons_succ] at hK ⊢
    refine tell_do rfl ?_
    have i1 := pw_cell_below hB i0; have k1 := pw_cell_below hB k0; have q5 := (hR.below hB).cell i hin; have q6 := (hR.below hB).cell k hkn; rw [eI] at q5; rw [eK] at q6
    go_simp
    exact hK _ _ ⟨rfl, rfl⟩
  case l2 =>
    intro W hM K hK
    simp only [putC, List.getD_cons_zero, List.getD_cons_succ, Act.put, List.setIfInBounds_toArray, List.set_cons_zero, List.set_cons_succ] at hK ⊢
    refine tell_do rfl ?_
    obtain ⟨W', hB, rfl⟩ := hM
    have k1 := cell_far (j := i) (u := .slice Ak n ck) (pw_cell_below hB k0) nk
    go_simp
    exact hK _ _ ⟨rfl, rfl⟩
  case l3 =>
    intro W hM K hK
    simp only [putC, List.getD_cons_zero, List.getD_cons_succ, Act.put, List.setIfInBounds_toArray, List.set_cons_zero, List.set_cons_succ] at hK ⊢
    refine tell_do rfl ?_
    obtain ⟨W', hB, rfl⟩ := hM
    have k1 := cell_far (j := i) (u := .slice Ak n ck) (pw_cell_below hB k0) nk
    go_simp
    exact hK _ _ ⟨rfl, rfl⟩
  case l14 =>
    intro W hM K hK
    simp only [putC, List.getD_cons_zero, List.getD_cons_succ, Act.put, List.setIfInBounds_toArray, List.set_cons_zero, List.set_cons_succ] at hK ⊢
    refine tell_do rfl ?_
    obtain ⟨W', hB, rfl⟩ := hM
    have k1 := cell_far (j := i) (u := .slice Ak n ck) (pw_cell_below hB k0) nk
    go_simp
    exact hK _ _ ⟨rfl, rfl⟩
  case one =>
    intro W hB K hK
    simp only [putC, List.getD_cons_zero, List.getD_cons_succ, Act.put, List.setIfInBounds_toArray, List.set_cons_zero, List.set_cons_succ] at hK ⊢
    refine tell_do rfl ?_
    have q5 := (hR.below hB).cell i hin
    rw [eI] at q5
    have q7 := (hR.below hB).frozen i
    go_simp
    exact hK undef _ ⟨W, hB, rfl⟩
  case two =>
    intro W hM K hK
    simp only [putC, List.getD_cons_zero, List.getD_cons_succ, Act.put, List.setIfInBounds_toArray, List.set_cons_zero, List.set_cons_succ] at hK ⊢
    refine tell_do rfl ?_
    obtain ⟨W', hB, rfl⟩ := hM
    obtain ⟨q5, q6⟩ := put_slot ((hR.below hB).store i (.slice Ak n ck)) k hkn
    go_simp
    exact hK undef _ ⟨W', hB, rfl⟩
  case hQ =>
    intro W hM
    simp only [putC, List.getD_cons_zero, List.getD_cons_succ, Act.put, List.setIfInBounds_toArray, List.set_cons_zero, List.set_cons_succ]
    obtain ⟨W', hB', rfl⟩ := hM
    have hR2 := (hR.below hB').swap i k hin hkn
    rw [eI, eK] at hR2
    have hf2 : Frm g n vs w _ := (Frm.of_below hB').trans ((Frm.of_put (w := W') i (.slice Ak n ck)).trans (Frm.of_put k (.slice Ai n ci)))
    have own_f : ∀ (b : Nat) (cs : Array Value) (t : TypeId), Blk w b cs t → 5 ≠ t → ∀ j, j < n → some b ≠ (vs j).ownBlock := fun b cs t h ht j hj => own_ne (own_b (hR.own j hj)) h ht
    have fB2 := hf2.blk _ _ _ fB nf (own_f _ _ _ fB (by decide))
    have kB2 := hf2.blk _ _ _ kB nk (own_f _ _ _ kB (by decide))
    have cB2 := hf2.blk _ _ _ cB nc hbc
    have hB2 : Below w0.heap.size w0 ((W'.setCell ⟨g, i, none⟩ (.slice Ak n ck)).setCell ⟨g, k, none⟩ (.slice Ai n ci)) := (Below.setCell (p := ⟨g, k, none⟩) (Below.setCell (p := ⟨g, i, none⟩) (hB.trans (hB'.mono hB.size)) hR.base _) hR.base _)
    generalize ((W'.setCell ⟨g, i, none⟩ (.slice Ak n ck)).setCell ⟨g, k, none⟩ (.slice Ai n ci)) = w2 at *
    clear i0 k0
    have q1 := hR2.cell k hkn
    have hO := hR2.own k hkn
    rw [show swv vs i k k = .slice Ai n ci by rw [← eI]; exact if_pos rfl] at q1 hO
    rw [show swv (fun r => rw_ n (a r)) i k k = rw_ n (a i) from if_pos rfl] at hO
    have f0 := fB2.one
    have k0 := kB2.one
    have c0 := cB2.one
    have hkp : ∀ V V', Below w2.heap.size w2 V → V.grownBy V' (Value.slice Ai n ci).ownBlock → V'.cell? ⟨bf, 0, none⟩ = some (fp b9) ∧ V'.cell? ⟨bk, 0, none⟩ = some (.int .i64 (k : Int)) ∧ V'.cell? ⟨bc, 0, none⟩ = some (.int .u8 (x.n : Int)) ∧ V'.cell? ⟨g, k, none⟩ = some (.slice Ai n ci) := fun V V' h1 h2 => by
      have o := own_b (hO.below h1)
      obtain ⟨cs, hc, hs, hcs⟩ := (hR2.below h1).blk
      have hcg := blk_grown hc h2 (own_ne o hc (by decide))
      refine ⟨(show Blk V' bf #[fp b9] 22 from blk_grown (fB2.below h1) h2 (own_ne o (fB2.below h1) (by decide))).one, (show Blk V' bk #[.int .i64 (k : Int)] 3 from blk_grown (kB2.below h1) h2 (own_ne o (kB2.below h1) (by decide))).one, (show Blk V' bc #[.int .u8 (x.n : Int)] 5 from blk_grown (cB2.below h1) h2 (by rw [← eI]; exact hbc i hin)).one, ?_⟩
      rw [blk_cell hcg, hcs k hkn]
      rw [← eI]
      exact congrArg some (if_pos rfl)
    have hF2 := hF.below hB2
    replace hkp := Lib.hid hkp
    go_wp2_with fail
    go_region_held3 (fun w' => w'.cell? ⟨bf, 0, none⟩ = some (fp b9) ∧ w'.cell? ⟨bk, 0, none⟩ = some (.int .i64 (k : Int)) ∧ w'.cell? ⟨bc, 0, none⟩ = some (.int .u8 (x.n : Int)) ∧ w'.cell? ⟨g, k, none⟩ = some (.slice Ai n ci))
      (go_keep)
      (first
        | (go_at_call 42; refine (inv_c b9 x _ (by first | exact hF2 | exact hF2.drew | exact hF2.drewN _) _ rfl).mono ?_; rintro e w6 ⟨rfl, ⟨n6, rfl⟩⟩)
        | (go_at_call 176; refine (mScale_c b9 _ n (a i) (F.inv x) w0 _ hF (hO.below (pw_below_drewN (Below.refl _ _) _)) (pw_below_drewN hB2 _) hn).mono ?_; rintro e w7 ⟨rfl, hO7, hg7, hB7⟩; obtain ⟨f0, k0, c0, q1⟩ := hkp.out _ _ (pw_below_drewN (Below.refl _ _) _) hg7)
        | fail)
    all_goals
      go_wp2
      go_end0
      have hb9 := pw_below_drewN (Below.refl w2.heap.size w2) (1 + n6)
      have hR9 := (hR2.below hb9).touch k hkn (l := rw_ n (fun j => a i j * F.inv x)) (by rw [show swv vs i k k = .slice Ai n ci by rw [← eI]; exact if_pos rfl]; exact hO7) (by rw [show swv vs i k k = .slice Ai n ci by rw [← eI]; exact if_pos rfl]; exact hg7)
      refine ⟨rfl, hR9.congr (fun r hr => sw_rw a i k (F.inv x) r), hf2.trans ((Frm.of_below hb9).trans (Frm.of_grown i hin (by rw [eI]; exact hg7))), hB7⟩
end Go.Proofs.Ytijeabhfddaoaaa
