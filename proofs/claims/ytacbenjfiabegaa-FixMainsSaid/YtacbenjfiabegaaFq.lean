/- The walk of FixTwice. -/
import Derived.Test.YtacbenjfiabegaaFp
import Derived.Test.YtacbenjfiabegaaFa
import Derived.Laws.CopyOwn
namespace Go.Proofs.Ytacbenjfiabegaa
set_option linter.unusedVariables false
set_option linter.unusedSimpArgs false
open Go.RowKit Go.Proofs.YtacbenjfiabegaaW.PrintWords Go.Proofs.Sh

theorem main_t (M S D : Rc) (nm : ByteArray) (mk a e z : Int) : mainM M S D nm mk ⟨true, a, e, z⟩ = if (shareM M S D ⟨true, a, e, z⟩).1 then ⟨2, nm, a, e, mk, (shareM M S D ⟨true, a, e, z⟩).2.1, (shareM M S D ⟨true, a, e, z⟩).2.2⟩ else ⟨3, nm, a, e, mk, z, []⟩ := rfl
theorem main_twice (M S D : Rc) (nm : ByteArray) (mk : Int) (v : Vl) : mainM (mainM M S D nm mk v) noR noR nm mk v = mainM M S D nm mk v := by
  obtain ⟨p, a, e, z⟩ := v
  cases p with
  | false => rfl
  | true =>
    have e1 := main_t M S D nm mk a e z
    generalize shareM M S D ⟨true, a, e, z⟩ = q at e1
    rw [e1, main_t]
    by_cases h : q.1 = true
    · rw [if_pos h]
      have hs : shareM ⟨2, nm, a, e, mk, q.2.1, q.2.2⟩ noR noR ⟨true, a, e, z⟩ = (true, q.2.1, q.2.2) := by
        unfold shareM liveR
        simp
      rw [hs]
      rfl
    · rw [if_neg h]
      have hs : shareM ⟨3, nm, a, e, mk, z, []⟩ noR noR ⟨true, a, e, z⟩ = (false, 0, []) := by
        unfold shareM liveR noR
        simp
      rw [hs]
      rfl
theorem main_says (M S D : Rc) (nm : ByteArray) (mk : Int) (v : Vl) : (ofM (mainM M S D nm mk v)).2 = true ∧ (ofM (mainM M S D nm mk v)).1.p = v.p ∧ (v.p = true → (ofM (mainM M S D nm mk v)).1.a = v.a ∧ (ofM (mainM M S D nm mk v)).1.e = v.e) ∧ (mainM M S D nm mk v).m = mk ∧ (mainM M S D nm mk v).nm = nm := by
  obtain ⟨p, a, e, z⟩ := v
  cases p with
  | false => exact ⟨rfl, rfl, (fun h => Bool.noConfusion h), rfl, rfl⟩
  | true =>
    rw [main_t]
    split <;> exact ⟨rfl, rfl, fun _ => ⟨rfl, rfl⟩, rfl, rfl⟩
theorem main_len (M S D : Rc) (nm : ByteArray) (mk : Int) (v : Vl) (b1 : M.sh.length ≤ 300) (b2 : D.sh.length ≤ 300) (b3 : S.sh.length ≤ 300) : (mainM M S D nm mk v).sh.length ≤ 300 := by
  unfold mainM
  split
  · simp
  · split
    · unfold shareM
      split
      · simp
      · split
        · exact b1
        · split
          · exact b3
          · split
            · show (F.zadd M.sh D.sh).length ≤ 300
              rw [F.zadd_len]
              omega
            · simp
    · simp
theorem far_no {M S D : Rc} {nm : ByteArray} (h : farH M S D nm = false) : M.sh.length ≤ 300 ∧ D.sh.length ≤ 300 ∧ S.sh.length ≤ 300 := by
  unfold farH farR at h
  simp only [Bool.or_eq_false_iff, decide_eq_false_iff_not] at h
  omega
theorem upd_ne (vs : Nat → Value) {i j : Nat} (v : Value) (h : j ≠ i) : upd vs i v j = vs j := if_neg h
theorem upd_eq (vs : Nat → Value) (i : Nat) (v : Value) : upd vs i v i = v := if_pos rfl
theorem mem_but {l : List Nat} {i j : Nat} (h : j ∈ l ++ [i]) (hne : j ≠ i) : j ∈ l := by
  rcases List.mem_append.1 h with h | h
  · exact h
  · exact absurd (by simpa using h) hne
theorem grown_row (w : World) (b : Nat) (cs : Array Value) : w.grownBy (w.setRow b cs) (some b) :=
  ⟨rfl, rfl, rfl, by simp, fun i hi hne => setRow_other w b i cs (fun e => hne (by rw [e]))⟩
theorem ob_row {w0 w : World} {v : Value} {l : List F} {b : Nat} {cs cs' : Array Value} {t : TypeId} (h : Ob w0 w v l) (hB : Blk w b cs t) (ht : 5 ≠ t) : Ob w0 (w.setRow b cs') v l :=
  b_own (own_other (own_b h) (grown_row w b cs') (.inr (fun e => own_ne (own_b h) hB ht e.symm)))
/-- What was carried out of 'r := fix.Main(as(h), name, q.Mark, v)'. -/
structure Tw (w0 : World) (H : Value) (nm : ByteArray) (mk : Int) (vv pa : Value) (r : Rc) (vs : Nat → Value) (l : List Nat) (W : World) : Prop where
  b : Below w0.heap.size w0 W
  f0 : 0 ∈ l → vs 0 = H
  f1 : 1 ∈ l → vs 1 = H
  f2 : 2 ∈ l → vs 2 = .string nm
  f3 : 3 ∈ l → vs 3 = pa
  f4 : 4 ∈ l → vs 4 = .int .i64 mk
  f5 : 5 ∈ l → vs 5 = vv
  f6 : 6 ∈ l → ∃ A c, vs 6 = recV r (.slice A r.sh.length c) ∧ Ob w0 W (.slice A r.sh.length c) r.sh
  f7 : 7 ∈ l → ∃ b cs, vs 7 = .pointer (some ⟨b, 0, none⟩) ∧ w0.heap.size ≤ b ∧ Blk W b cs 24 ∧ cs.size = 7 ∧ (8 ∈ l → vs 6 = .agg cs)
  f8 : 8 ∈ l → 6 ∈ l ∧ 7 ∈ l
section
variable {w0 W W' : World} {H vv pa : Value} {nm : ByteArray} {mk : Int} {r : Rc} {vs : Nat → Value} {l : List Nat}
theorem Tw.start : Tw w0 H nm mk vv pa r vs [] w0.drew := ⟨below_drew (Below.refl _ _), by simp, by simp, by simp, by simp, by simp, by simp, by simp, by simp, by simp⟩
theorem Tw.more (I : Tw w0 H nm mk vv pa r vs l W) (i : Nat) (v : Value) (hi : i ∉ l) (hb : Below W.heap.size W W') (h8 : i ≠ 8)
    (n : i ≠ 6 → i ≠ 7 → v = if i = 0 then H else if i = 1 then H else if i = 2 then .string nm else if i = 3 then pa else if i = 4 then .int .i64 mk else vv)
    (n6 : i = 6 → ∃ A c, v = recV r (.slice A r.sh.length c) ∧ Ob w0 W' (.slice A r.sh.length c) r.sh)
    (n7 : i = 7 → ∃ b cs, v = .pointer (some ⟨b, 0, none⟩) ∧ W.heap.size ≤ b ∧ Blk W' b cs 24 ∧ cs.size = 7) : Tw w0 H nm mk vv pa r (upd vs i v) (l ++ [i]) W' := by
  have go : ∀ j : Nat, (j ∈ l → j ≠ i → vs j = upd vs i v j) := fun j _ h => (upd_ne vs v h).symm
  refine ⟨bt_ I.b hb, fun h => ?_, fun h => ?_, fun h => ?_, fun h => ?_, fun h => ?_, fun h => ?_, fun h => ?_, fun h => ?_, fun h => ?_⟩
  · by_cases e : 0 = i
    · subst e; rw [upd_eq]; exact n (by decide) (by decide)
    · rw [upd_ne _ _ e]; exact I.f0 (mem_but h e)
  · by_cases e : 1 = i
    · subst e; rw [upd_eq]; exact n (by decide) (by decide)
    · rw [upd_ne _ _ e]; exact I.f1 (mem_but h e)
  · by_cases e : 2 = i
    · subst e; rw [upd_eq]; exact n (by decide) (by decide)
    · rw [upd_ne _ _ e]; exact I.f2 (mem_but h e)
  · by_cases e : 3 = i
    · subst e; rw [upd_eq]; exact n (by decide) (by decide)
    · rw [upd_ne _ _ e]; exact I.f3 (mem_but h e)
  · by_cases e : 4 = i
    · subst e; rw [upd_eq]; exact n (by decide) (by decide)
    · rw [upd_ne _ _ e]; exact I.f4 (mem_but h e)
  · by_cases e : 5 = i
    · subst e; rw [upd_eq]; exact n (by decide) (by decide)
    · rw [upd_ne _ _ e]; exact I.f5 (mem_but h e)
  · by_cases e : 6 = i
    · subst e; rw [upd_eq]; exact n6 rfl
    · rw [upd_ne _ _ e]
      obtain ⟨A, c, h1, h2⟩ := I.f6 (mem_but h e)
      exact ⟨A, c, h1, h2.below hb⟩
  · by_cases e : 7 = i
    · subst e
      rw [upd_eq]
      obtain ⟨b, cs, h1, h2, h3, h4⟩ := n7 rfl
      exact ⟨b, cs, h1, Nat.le_trans I.b.size h2, h3, h4, fun h9 => absurd (I.f8 (mem_but h9 (by decide))).2 hi⟩
    · rw [upd_ne _ _ e]
      obtain ⟨b, cs, h1, h2, h3, h4, h5⟩ := I.f7 (mem_but h e)
      refine ⟨b, cs, h1, h2, h3.below hb, h4, fun h9 => ?_⟩
      have h10 := mem_but h9 (fun e => h8 e.symm)
      rw [upd_ne _ _ (fun e => hi (by rw [← e]; exact (I.f8 h10).1))]
      exact h5 h10
  · obtain ⟨h1, h2⟩ := I.f8 (mem_but h (fun e => h8 e.symm))
    exact ⟨List.mem_append_left _ h1, List.mem_append_left _ h2⟩
theorem Tw.put (I : Tw w0 H nm mk vv pa r vs l W) (h6 : 6 ∈ l) (h7 : 7 ∈ l) (h8 : 8 ∉ l) (b : Nat) (cs cs' : Array Value) (e7 : vs 7 = .pointer (some ⟨b, 0, none⟩)) (hb : w0.heap.size ≤ b) (hB : Blk W b cs 24) (hs : cs'.size = 7) (e6 : vs 6 = .agg cs') (v : Value) : Tw w0 H nm mk vv pa r (upd vs 8 v) (l ++ [8]) (W.setRow b cs') := by
  have up : ∀ j, j ≠ 8 → upd vs 8 v j = vs j := fun j h => upd_ne vs v h
  have mb : ∀ j, j ≠ 8 → j ∈ l ++ [8] → j ∈ l := fun j h k => mem_but k h
  refine ⟨below_setRow I.b hb _, fun h => ?_, fun h => ?_, fun h => ?_, fun h => ?_, fun h => ?_, fun h => ?_, fun h => ?_, fun h => ?_, fun h => ⟨List.mem_append_left _ h6, List.mem_append_left _ h7⟩⟩
  · rw [up 0 (by decide)]; exact I.f0 (mb 0 (by decide) h)
  · rw [up 1 (by decide)]; exact I.f1 (mb 1 (by decide) h)
  · rw [up 2 (by decide)]; exact I.f2 (mb 2 (by decide) h)
  · rw [up 3 (by decide)]; exact I.f3 (mb 3 (by decide) h)
  · rw [up 4 (by decide)]; exact I.f4 (mb 4 (by decide) h)
  · rw [up 5 (by decide)]; exact I.f5 (mb 5 (by decide) h)
  · rw [up 6 (by decide)]
    obtain ⟨A, c, q1, q2⟩ := I.f6 h6
    exact ⟨A, c, q1, ob_row q2 hB (by decide)⟩
  · rw [up 7 (by decide), up 6 (by decide)]
    exact ⟨b, cs', e7, hb, setRow_heap _ _ _ _ _ _ hB, hs, fun _ => e6⟩
end
abbrev askC (mk : Int) (v : Vl) : Array Value := #[.int .i64 mk, .bool v.p, .int .i64 v.a, .int .i64 v.e, .int .i64 v.z]
set_option maxRecDepth 100000 in
set_option maxHeartbeats 3200000 in
theorem FixTwice_c (M S D : Rc) (u s x : Value) (nm : ByteArray) (mk : Int) (v : Vl) (w : World) (hu : Rb w u M.sh) (hs : Rb w s S.sh) (hx : Rb w x D.sh) :
   Calls Try.prog 3 #[heldV M S D u s x, .string nm, .agg (askC mk v)] w fun e w' => e = .returned (.bool true) ∧ Below w.heap.size w w' := by
  obtain ⟨Au, cu, rfl⟩ := rk_form hu
  obtain ⟨As, cs, rfl⟩ := rk_form hs
  obtain ⟨Ax, cx, rfl⟩ := rk_form hx
  have hH := (Blk.new w (heldC M S D (.slice Au M.sh.length cu) (.slice As S.sh.length cs) (.slice Ax D.sh.length cx)) 26).alloc (.cells (askC mk v) 30)
  have hA := Blk.new' (w.alloc (.cells (heldC M S D (.slice Au M.sh.length cu) (.slice As S.sh.length cs) (.slice Ax D.sh.length cx)) 26)) (askC mk v) 30 (n := w.heap.size + 1) (World.size_alloc _ _)
  have hB := below_alloc (below_alloc (Below.refl w.heap.size w) (.cells (heldC M S D (.slice Au M.sh.length cu) (.slice As S.sh.length cs) (.slice Ax D.sh.length cx)) 26)) (.cells (askC mk v) 30)
  replace hu := hu.below hB
  replace hs := hs.below hB
  replace hx := hx.below hB
  have hfr := fun W => Lib.hid (far29_c M S D Au As Ax cu cs cx nm W)
  go_enter Try.func3, Try.ntmps3
  go_upto_region 1 with fail
  generalize ((w.alloc (.cells (heldC M S D (.slice Au M.sh.length cu) (.slice As S.sh.length cs) (.slice Ax D.sh.length cx)) 26)).alloc (.cells (askC mk v) 30)) = w0 at *
  go_wp2_with (first
    | ((with_reducible refine gate_dst (N := 12) rfl ?_); refine wpList_load_row rfl 26 (.tmp 3) rfl w.heap.size rfl 26 (heldC M S D (.slice Au M.sh.length cu) (.slice As S.sh.length cs) (.slice Ax D.sh.length cx)) (0, 0) _ hH Try.underlying26 rfl (by kernel_rfl) ?_)
    | fail)
  refine (hfr _).out.mono ?_
  rintro e w1 ⟨rfl, h1⟩
  replace hu := hu.below h1
  replace hs := hs.below h1
  replace hx := hx.below h1
  replace hH := hH.below h1
  replace hA := hA.below h1
  replace hB := bt_ hB h1
  clear h1 hfr
  cases hf : farH M S D nm with
  | true =>
    clear hf
    go_wp2_with fail
    refine (alive29_c _).mono ?_
    rintro e w9 ⟨rfl, h9⟩
    have hB9 := bt_ hB h9
    clear hB h9
    go_wp2
    go_ret
    exact ⟨rfl, hB9⟩
  | false =>
    obtain ⟨b1, b2, b3⟩ := far_no hf
    clear hf
    have a0 : w1.cell? ⟨w.heap.size + 1, 0, none⟩ = some (.int .i64 mk) := hA.cell 0 _ rfl
    have a1 : w1.cell? ⟨w.heap.size + 1, 1, none⟩ = some (.bool v.p) := hA.cell 1 _ rfl
    have a2 : w1.cell? ⟨w.heap.size + 1, 2, none⟩ = some (.int .i64 v.a) := hA.cell 2 _ rfl
    have a3 : w1.cell? ⟨w.heap.size + 1, 3, none⟩ = some (.int .i64 v.e) := hA.cell 3 _ rfl
    have a4 : w1.cell? ⟨w.heap.size + 1, 4, none⟩ = some (.int .i64 v.z) := hA.cell 4 _ rfl
    go_upto_region 4 with fail
    have hV := Blk.new w1 (valC v) 33
    have hb2 := below_alloc (Below.refl w1.heap.size w1) (.cells (valC v) 33)
    replace hu := hu.below hb2
    replace hs := hs.below hb2
    replace hx := hx.below hb2
    replace hH := hH.below hb2
    replace hA := hA.below hb2
    replace hB := bt_ hB hb2
    replace a0 := pw_cell_below hb2 a0
    clear hb2 a1 a2 a3 a4
    generalize (w1.alloc (.cells (valC v) 33)) = w2 at *
    refine wp_region_inv (Tw w2 (.agg (heldC M S D (.slice Au M.sh.length cu) (.slice As S.sh.length cs) (.slice Ax D.sh.length cx))) nm mk (valV v) (.pointer (some ⟨w.heap.size + 1, 0, none⟩)) (mainM M S D nm mk v)) [([], none), ([(0, some 18)], none), ([], none), ([], none), ([(3, some 21)], none), ([], none), ([(1, some 19), (2, some 20), (4, some 22), (5, some 23)], none), ([], none), ([(6, some 24), (7, some 8)], none)] [(0, some 18), (1, some 19), (2, some 20), (3, some 21), (4, some 22), (5, some 23), (6, some 24), (7, some 8), (8, none)] (by kernel_rfl) (by kernel_rfl) (by kernel_rfl) (by kernel_rfl) Tw.start ⟨?s0, ?s1, ?s2, ?s3, ?s4, ?s5, ?s6, ?s7, ?s8, trivial⟩ ?hQ
    case s0 =>
      intro vs l W hi hd I K hK
      simp only [putV, Act.put, List.setIfInBounds_toArray, List.set_cons_zero, List.set_cons_succ] at hK ⊢
      refine tell_do rfl ?_
      refine wp_load_row 26 (.tmp 3) rfl w.heap.size rfl 26 (heldC M S D (.slice Au M.sh.length cu) (.slice As S.sh.length cs) (.slice Ax D.sh.length cx)) (0, 0) _ (hH.below I.b) Try.underlying26 rfl (by kernel_rfl) ?_
      exact hK _ _ (I.more 0 _ hi (Below.refl _ _) (by decide) (fun _ _ => rfl) (fun h => absurd h (by decide)) (fun h => absurd h (by decide)))
    case s1 =>
      intro vs l W hi hd I K hK
      have e0 := I.f0 (hd (0, some 18) (by simp))
      simp only [putV, Act.put, List.setIfInBounds_toArray, List.set_cons_zero, List.set_cons_succ, e0] at hK ⊢
      refine tell_do rfl ?_
      go_simp
      go_at_call 14
      refine (as_c M S D Au As Ax _ _ _ cu cs cx _).mono ?_
      rintro e W9 ⟨rfl, h9⟩
      exact hK _ _ (I.more 1 _ hi h9 (by decide) (fun _ _ => rfl) (fun h => absurd h (by decide)) (fun h => absurd h (by decide)))
    case s2 =>
      intro vs l W hi hd I K hK
      simp only [putV, Act.put, List.setIfInBounds_toArray, List.set_cons_zero, List.set_cons_succ] at hK ⊢
      refine tell_do rfl ?_
      go_simp
      exact hK _ _ (I.more 2 _ hi (Below.refl _ _) (by decide) (fun _ _ => rfl) (fun h => absurd h (by decide)) (fun h => absurd h (by decide)))
    case s3 =>
      intro vs l W hi hd I K hK
      simp only [putV, Act.put, List.setIfInBounds_toArray, List.set_cons_zero, List.set_cons_succ] at hK ⊢
      refine tell_do rfl ?_
      go_simp
      exact hK _ _ (I.more 3 _ hi (Below.refl _ _) (by decide) (fun _ _ => rfl) (fun h => absurd h (by decide)) (fun h => absurd h (by decide)))
    case s4 =>
      intro vs l W hi hd I K hK
      have e3 := I.f3 (hd (3, some 21) (by simp))
      have a0 := pw_cell_below I.b a0
      simp only [putV, Act.put, List.setIfInBounds_toArray, List.set_cons_zero, List.set_cons_succ, e3] at hK ⊢
      refine tell_do rfl ?_
      go_simp
      exact hK _ _ (I.more 4 _ hi (Below.refl _ _) (by decide) (fun _ _ => rfl) (fun h => absurd h (by decide)) (fun h => absurd h (by decide)))
    case s5 =>
      intro vs l W hi hd I K hK
      simp only [putV, Act.put, List.setIfInBounds_toArray, List.set_cons_zero, List.set_cons_succ] at hK ⊢
      refine tell_do rfl ?_
      refine wp_load_row 33 (.tmp 7) rfl w1.heap.size rfl 33 (valC v) (0, 0) _ (hV.below I.b) Try.underlying33 rfl (by kernel_rfl) ?_
      exact hK _ _ (I.more 5 _ hi (Below.refl _ _) (by decide) (fun _ _ => rfl) (fun h => absurd h (by decide)) (fun h => absurd h (by decide)))
    case s6 =>
      intro vs l W hi hd I K hK
      have e1 := I.f1 (hd (1, some 19) (by simp))
      have e2 := I.f2 (hd (2, some 20) (by simp))
      have e4 := I.f4 (hd (4, some 22) (by simp))
      have e5 := I.f5 (hd (5, some 23) (by simp))
      simp only [putV, Act.put, List.setIfInBounds_toArray, List.set_cons_zero, List.set_cons_succ, e1, e2, e4, e5] at hK ⊢
      refine tell_do rfl ?_
      go_simp
      go_at_call 13
      refine (main_c M S D _ _ _ nm mk v _ (hu.below I.b) (hs.below I.b) (hx.below I.b) (by omega) (by omega) (by omega)).mono ?_
      rintro e W9 ⟨sv, rfl, hsv, h9⟩
      obtain ⟨A9, c9, rfl⟩ := rk_form hsv.rk
      exact hK _ _ (I.more 6 _ hi h9 (by decide) (fun h _ => absurd rfl h) (fun _ => ⟨A9, c9, rfl, hsv.lower I.b⟩) (fun h => absurd h (by decide)))
    case s7 =>
      intro vs l W hi hd I K hK
      simp only [putV, Act.put, List.setIfInBounds_toArray, List.set_cons_zero, List.set_cons_succ] at hK ⊢
      refine tell_do rfl ?_
      go_simp
      exact hK _ _ (I.more 7 _ hi (below_alloc (Below.refl _ _) _) (by decide) (fun _ h => absurd rfl h) (fun h => absurd h (by decide)) (fun _ => ⟨_, _, rfl, Nat.le_refl _, Blk.new _ _ _, rfl⟩))
    case s8 =>
      intro vs l W hi hd I K hK
      have m6 := hd (6, some 24) (by simp)
      have m7 := hd (7, some 8) (by simp)
      obtain ⟨A6, c6, e6, o6⟩ := I.f6 m6
      obtain ⟨b7, cs7, e7, q7, B7, z7, _⟩ := I.f7 m7
      simp only [putV, Act.put, List.setIfInBounds_toArray, List.set_cons_zero, List.set_cons_succ, e6, e7] at hK ⊢
      refine tell_do rfl ?_
      refine wp_store_row 24 (.tmp 8) (.tmp 24) rfl b7 (recC (mainM M S D nm mk v) (.slice A6 (mainM M S D nm mk v).sh.length c6)) rfl rfl 24 cs7 B7 (by kernel_rfl) (by rw [z7]; rfl) (by simp [Value.oneCell']) ?_
      exact hK _ _ (I.put m6 m7 hi b7 cs7 _ e7 q7 B7 rfl e6 undef)
    case hQ =>
      intro vs l W hall I
      have m := fun j (h : j < 9) => hall j h
      have e0 := I.f0 (m 0 (by decide))
      have e1 := I.f1 (m 1 (by decide))
      have e2 := I.f2 (m 2 (by decide))
      have e3 := I.f3 (m 3 (by decide))
      have e4 := I.f4 (m 4 (by decide))
      have e5 := I.f5 (m 5 (by decide))
      obtain ⟨A6, c6, e6, o6⟩ := I.f6 (m 6 (by decide))
      obtain ⟨b8, cs7, e7, q7, h8, z7, e8⟩ := I.f7 (m 7 (by decide))
      have e8 := e8 (m 8 (by decide))
      rw [e6] at e8
      obtain rfl : recC (mainM M S D nm mk v) (.slice A6 (mainM M S D nm mk v).sh.length c6) = cs7 := by injection e8
      have hB2 := I.b
      simp only [putV, Act.put, List.setIfInBounds_toArray, List.set_cons_zero, List.set_cons_succ, e0, e1, e2, e3, e4, e5, e6, e7]
      clear e0 e1 e2 e3 e4 e5 e6 e7 e8 I m hall z7
      have hsy := Lib.hid (main_says M S D nm mk v)
      have htw := Lib.hid (main_twice M S D nm mk v)
      have hlen := main_len M S D nm mk v b1 b2 b3
      generalize mainM M S D nm mk v = r at *
      have hA := hA.below hB2
      have hV := hV.below hB2
      replace hB := bt_ hB hB2
      have a0 : W.cell? ⟨w.heap.size + 1, 0, none⟩ = some (.int .i64 mk) := hA.cell 0 _ rfl
      clear hu hs hx hH hB2 b1 b2 b3
      have o8 := o6.rk
      clear o6
      have hm2 := Lib.hid (main_c r noR noR (.slice A6 r.sh.length c6) (.slice none 0 0) (.slice none 0 0) nm mk v W o8 (nilB _) (nilB _) (by omega) (by decide) (by decide))
      rw [htw.out] at hm2
      go_wp2_with (first
        | ((with_reducible refine gate_dst (N := 25) rfl ?_); refine wpList_load_row rfl 24 (.tmp 8) rfl b8 rfl 24 (recC r (.slice A6 r.sh.length c6)) (0, 0) _ h8 Try.underlying24 rfl (by kernel_rfl) ?_)
        | ((with_reducible refine gate_dst (N := 30) rfl ?_); refine wpList_load_row rfl 33 (.tmp 7) rfl w1.heap.size rfl 33 (valC v) (0, 0) _ hV Try.underlying33 rfl (by kernel_rfl) ?_)
        | fail)
      refine hm2.out.mono ?_
      rintro e w7 ⟨sv2, rfl, o9, h7⟩
      replace o9 := o9.rk
      obtain ⟨A9, c9, rfl⟩ := rk_form o9
      clear hm2
      have h9 := Blk.new w7 (recC r (.slice A9 r.sh.length c9)) 24
      have hb8 := below_alloc (Below.refl w7.heap.size w7) (.cells (recC r (.slice A9 r.sh.length c9)) 24)
      have hb9 := bt_ h7 hb8
      replace o9 := o9.below hb8
      replace o8 := o8.below hb9
      replace h8 := h8.below hb9
      replace hA := hA.below hb9
      replace hV := hV.below hb9
      replace hB := bt_ hB hb9
      clear hb8 hb9 h7 a0
      go_upto_region 6 with fail
      generalize (w7.alloc (.cells (recC r (.slice A9 r.sh.length c9)) 24)) = w8 at *
      generalize w7.heap.size = b9 at *
      have hof := Lib.hid (of_c r (.slice A6 r.sh.length c6) w8)
      go_wp2_with (first
        | ((with_reducible refine gate_dst (N := 33) rfl ?_); refine wpList_load_row rfl 24 (.tmp 8) rfl b8 rfl 24 (recC r (.slice A6 r.sh.length c6)) (0, 0) _ h8 Try.underlying24 rfl (by kernel_rfl) ?_)
        | fail)
      refine hof.out.mono ?_
      rintro e w10 ⟨rfl, h10⟩
      clear hof
      obtain ⟨s1, s2, s3, s4, s5⟩ := hsy.out
      clear hsy htw hlen
      generalize ofM r = q at *
      obtain ⟨⟨qp, qa, qe, qz⟩, qo⟩ := q
      obtain rfl : qo = true := s1
      obtain rfl : qp = v.p := s2
      have s3 : v.p = true → qa = v.a ∧ qe = v.e := s3
      have hb11 := below_alloc (Below.refl w10.heap.size w10) (.cells #[.bool v.p, .int .i64 qa, .int .i64 qe, .int .i64 qz] 33)
      have hx := Blk.new w10 #[.bool v.p, .int .i64 qa, .int .i64 qe, .int .i64 qz] 33
      have hb12 := bt_ h10 hb11
      replace o9 := o9.below hb12
      replace o8 := o8.below hb12
      replace h8 := h8.below hb12
      replace h9 := h9.below hb12
      replace hA := hA.below hb12
      replace hV := hV.below hb12
      replace hB := bt_ hB hb12
      clear h10 hb11 hb12
      go_upto_region 7 with fail
      generalize (w10.alloc (.cells #[.bool v.p, .int .i64 qa, .int .i64 qe, .int .i64 qz] 33)) = w11 at *
      generalize w10.heap.size = bx at *
      have x0 : w11.cell? ⟨bx, 0, none⟩ = some (.bool v.p) := hx.cell 0 _ rfl
      have x1 : w11.cell? ⟨bx, 1, none⟩ = some (.int .i64 qa) := hx.cell 1 _ rfl
      have x2 : w11.cell? ⟨bx, 2, none⟩ = some (.int .i64 qe) := hx.cell 2 _ rfl
      have v0 : w11.cell? ⟨w1.heap.size, 0, none⟩ = some (.bool v.p) := hV.cell 0 _ rfl
      have v1 : w11.cell? ⟨w1.heap.size, 1, none⟩ = some (.int .i64 v.a) := hV.cell 1 _ rfl
      have v2 : w11.cell? ⟨w1.heap.size, 2, none⟩ = some (.int .i64 v.e) := hV.cell 2 _ rfl
      have r4 : w11.cell? ⟨b8, 4, none⟩ = some (.int .i64 mk) := by rw [← s4]; exact h8.cell 4 _ rfl
      have r1 : w11.cell? ⟨b8, 1, none⟩ = some (.string nm) := by rw [← s5]; exact h8.cell 1 _ rfl
      have a0 : w11.cell? ⟨w.heap.size + 1, 0, none⟩ = some (.int .i64 mk) := hA.cell 0 _ rfl
      have hsm := Lib.hid (same20_c r (.slice A9 r.sh.length c9) (.slice A6 r.sh.length c6) w11 o9 o8)
      clear hA hV hx o8 o9 s4 s5
      cases hp : v.p with
      | false =>
        rw [hp] at x0 v0
        clear s3
        go_wp2_with (first
          | ((with_reducible refine gate_dst (N := 77) rfl ?_); refine wpList_load_row rfl 24 (.tmp 9) rfl b9 rfl 24 (recC r (.slice A9 r.sh.length c9)) (0, 0) _ h9 Try.underlying24 rfl (by kernel_rfl) ?_)
          | ((with_reducible refine gate_dst (N := 78) rfl ?_); refine wpList_load_row rfl 24 (.tmp 8) rfl b8 rfl 24 (recC r (.slice A6 r.sh.length c6)) (0, 0) _ h8 Try.underlying24 rfl (by kernel_rfl) ?_)
          | fail)
        refine hsm.out.mono ?_
        rintro e w12 ⟨rfl, h12⟩
        replace hB := bt_ hB h12
        clear h12 h8 h9 hsm x0 x1 x2 v0 v1 v2 r4 r1 a0
        go_wp2_with fail
        refine (alive29_c _).mono ?_
        rintro e w13 ⟨rfl, h13⟩
        have hB9 := bt_ hB h13
        clear hB h13
        go_wp2
        go_ret
        exact ⟨rfl, hB9⟩
      | true =>
        rw [hp] at x0 v0
        obtain ⟨rfl, rfl⟩ := s3 hp
        clear s3
        go_wp2_with (first
          | ((with_reducible refine gate_dst (N := 77) rfl ?_); refine wpList_load_row rfl 24 (.tmp 9) rfl b9 rfl 24 (recC r (.slice A9 r.sh.length c9)) (0, 0) _ h9 Try.underlying24 rfl (by kernel_rfl) ?_)
          | ((with_reducible refine gate_dst (N := 78) rfl ?_); refine wpList_load_row rfl 24 (.tmp 8) rfl b8 rfl 24 (recC r (.slice A6 r.sh.length c6)) (0, 0) _ h8 Try.underlying24 rfl (by kernel_rfl) ?_)
          | fail)
        refine hsm.out.mono ?_
        rintro e w12 ⟨rfl, h12⟩
        replace hB := bt_ hB h12
        clear h12 h8 h9 hsm x0 x1 x2 v0 v1 v2 r4 r1 a0
        go_wp2_with fail
        refine (alive29_c _).mono ?_
        rintro e w13 ⟨rfl, h13⟩
        have hB9 := bt_ hB h13
        clear hB h13
        go_wp2
        go_ret
        exact ⟨rfl, hB9⟩
theorem FixTwice_walk (w : World) (kM : Int) (QkM : -9223372036854775808 ≤ kM ∧ kM ≤ 9223372036854775807) (nM : ByteArray) (QnM : nM.size ≤ 9223372036854775807) (aM : Int) (QaM : -9223372036854775808 ≤ aM ∧ aM ≤ 9223372036854775807) (eM : Int) (QeM : -9223372036854775808 ≤ eM ∧ eM ≤ 9223372036854775807) (mM : Int) (QmM : -9223372036854775808 ≤ mM ∧ mM ≤ 9223372036854775807) (zM : Int) (QzM : -9223372036854775808 ≤ zM ∧ zM ≤ 9223372036854775807) (vM : Value) (lM : List F) (hM : Rb w vM lM) (kS : Int) (QkS : -9223372036854775808 ≤ kS ∧ kS ≤ 9223372036854775807) (nS : ByteArray) (QnS : nS.size ≤ 9223372036854775807) (aS : Int) (QaS : -9223372036854775808 ≤ aS ∧ aS ≤ 9223372036854775807) (eS : Int) (QeS : -9223372036854775808 ≤ eS ∧ eS ≤ 9223372036854775807) (mS : Int) (QmS : -9223372036854775808 ≤ mS ∧ mS ≤ 9223372036854775807) (zS : Int) (QzS : -9223372036854775808 ≤ zS ∧ zS ≤ 9223372036854775807) (vS : Value) (lS : List F) (hS : Rb w vS lS) (kD : Int) (QkD : -9223372036854775808 ≤ kD ∧ kD ≤ 9223372036854775807) (nD : ByteArray) (QnD : nD.size ≤ 9223372036854775807) (aD : Int) (QaD : -9223372036854775808 ≤ aD ∧ aD ≤ 9223372036854775807) (eD : Int) (QeD : -9223372036854775808 ≤ eD ∧ eD ≤ 9223372036854775807) (mD : Int) (QmD : -9223372036854775808 ≤ mD ∧ mD ≤ 9223372036854775807) (zD : Int) (QzD : -9223372036854775808 ≤ zD ∧ zD ≤ 9223372036854775807) (vD : Value) (lD : List F) (hD : Rb w vD lD) (nm : ByteArray) (Qnm : nm.size ≤ 9223372036854775807) (mk : Int) (Qmk : -9223372036854775808 ≤ mk ∧ mk ≤ 9223372036854775807) (p : Bool) (a : Int) (Qa : -9223372036854775808 ≤ a ∧ a ≤ 9223372036854775807) (e : Int) (Qe : -9223372036854775808 ≤ e ∧ e ≤ 9223372036854775807) (z : Int) (Qz : -9223372036854775808 ≤ z ∧ z ≤ 9223372036854775807) :
   Calls Try.prog 3 #[.agg #[.int .i64 kM, .string nM, .int .i64 aM, .int .i64 eM, .int .i64 mM, .int .i64 zM, vM, .int .i64 kS, .string nS, .int .i64 aS, .int .i64 eS, .int .i64 mS, .int .i64 zS, vS, .int .i64 kD, .string nD, .int .i64 aD, .int .i64 eD, .int .i64 mD, .int .i64 zD, vD], .string nm, .agg #[.int .i64 mk, .bool p, .int .i64 a, .int .i64 e, .int .i64 z]] w fun e w' => e = .returned (.bool true) ∧ Below w.heap.size w w' :=
  FixTwice_c ⟨kM, nM, aM, eM, mM, zM, lM⟩ ⟨kS, nS, aS, eS, mS, zS, lS⟩ ⟨kD, nD, aD, eD, mD, zD, lD⟩ vM vS vD nm mk ⟨p, a, e, z⟩ w hM hS hD
end Go.Proofs.Ytacbenjfiabegaa
