/- The two boxes that matrix.Inverse makes, in whatever order. -/
import Derived.Test.YtijeabhfddaoaaaMk
import Derived.Test.YtijeabhfddaoaaaFa
namespace Go.Proofs.Ytijeabhfddaoaaa
set_option linter.unusedVariables false
set_option linter.unusedSimpArgs false
open Go.RowKit Go.Proofs.YtijeabhfddaoaaaW.PrintWords Go.Proofs.Sh

/-- The state of the work: both matrices, the boxes of both, and of the field. -/
structure Mat (w0 : World) (b bf bl br g h n : Nat) (vs us : Nat → Value) (ls ms : Nat → List F) (w : World) : Prop where
  L : Rws w0 w g n vs ls
  R : Rws w0 w h n us ms
  ne : g ≠ h
  ap : ∀ p q, p < n → q < n → NeRow (vs p) (us q)
  fB : Blk w bf #[fp b] 22
  lB : Blk w bl #[.slice (some ⟨g, 0, none⟩) n n] 66
  rB : Blk w br #[.slice (some ⟨h, 0, none⟩) n n] 66
  b : Below w0.heap.size w0 w
section
variable {w0 w w1 : World} {b bf bl br g h n : Nat} {vs us : Nat → Value} {ls ms ls' ms' : Nat → List F}
theorem Mat.below (M : Mat w0 b bf bl br g h n vs us ls ms w) (hb : Below w.heap.size w w1) : Mat w0 b bf bl br g h n vs us ls ms w1 :=
  ⟨M.L.below hb, M.R.below hb, M.ne, M.ap, M.fB.below hb, M.lB.below hb, M.rB.below hb, bt_ M.b hb⟩
theorem Mat.congr (M : Mat w0 b bf bl br g h n vs us ls ms w) (h1 : ∀ k, k < n → ls k = ls' k) (h2 : ∀ k, k < n → ms k = ms' k) : Mat w0 b bf bl br g h n vs us ls' ms' w :=
  ⟨M.L.congr h1, M.R.congr h2, M.ne, M.ap, M.fB, M.lB, M.rB, M.b⟩
/-- A new row of its own is put into the first matrix. -/
theorem Mat.put (M : Mat w0 b bf bl br g h n vs us ls ms w) (i : Nat) (hi : i < n) (hnil : vs i = .slice none 0 0) {v : Value} {l : List F} (hO : Ob w w1 v l) (hb : Below w.heap.size w w1) :
    Mat w0 b bf bl br g h n (fun j => if j = i then v else vs j) us (fun j => if j = i then l else ls j) ms (w1.setCell ⟨g, i, none⟩ v) := by
  have M1 := M.below hb
  have hfr := ob_fresh hO (vs i) hnil
  have hL := M.L.put i hi (hO.lower M.b) (grown_of_below hb _) hfr
  have kept : ∀ (q : Nat) (cs : Array Value) (t : TypeId), Blk w1 q cs t → t ≠ 40 → Blk (w1.setCell ⟨g, i, none⟩ v) q cs t := fun q cs t hq ht => hq.far (M1.L.ne_blk hq ht) i v
  refine ⟨hL, M1.R.keep (grown_put w1 g i v) (fun e => M.ne (by injection e with e; exact e.symm)) (fun j hj => .inr (fun e => ?_)), M.ne, fun p q hp hq => ?_, kept _ _ _ M1.fB (by decide), kept _ _ _ M1.lB (by decide), kept _ _ _ M1.rB (by decide), below_set M1.b M.L.base⟩
  · obtain ⟨cs, hc, _⟩ := M1.L.blk
    exact own_ne (own_b (M1.R.own j hj)) hc (by decide) e.symm
  · show NeRow (if p = i then v else vs p) (us q)
    by_cases e : p = i
    · rw [if_pos e]
      intro k hk hk2
      have := own_lt (own_b (M.R.own q hq)) k hk2
      rcases own_base' (own_b hO) with h9 | ⟨b9, h9, h8⟩
      · rw [h9] at hk; cases hk
      · rw [h9] at hk
        injection hk with hk
        omega
    · rw [if_neg e]
      exact M.ap p q hp hq
end
/-- What was carried out: 1 a row of rows was made, 3 another one came, 4 and 5 are boxes, 6 and 7 put them in. -/
structure Two (w0 : World) (n : Nat) (ms : Nat → List F) (vs : Nat → Value) (l : List Nat) (W : World) : Prop where
  b : Below w0.heap.size w0 W
  f0 : 0 ∈ l → vs 0 = .int .i64 (n : Int)
  f2 : 2 ∈ l → vs 2 = .int .i64 (n : Int)
  f1 : 1 ∈ l → ∃ g, vs 1 = .slice (some ⟨g, 0, none⟩) n n ∧ Rws w0 W g n (fun _ => .slice none 0 0) (fun _ => [])
  f3 : 3 ∈ l → ∃ h us, vs 3 = .slice (some ⟨h, 0, none⟩) n n ∧ Rws w0 W h n us ms
  f13 : 1 ∈ l → 3 ∈ l → vs 1 ≠ vs 3
  f4 : 4 ∈ l → ∃ b u, vs 4 = .pointer (some ⟨b, 0, none⟩) ∧ w0.heap.size ≤ b ∧ Blk W b #[u] 66 ∧ (6 ∈ l → u = vs 1)
  f5 : 5 ∈ l → ∃ b u, vs 5 = .pointer (some ⟨b, 0, none⟩) ∧ w0.heap.size ≤ b ∧ Blk W b #[u] 66 ∧ (7 ∈ l → u = vs 3)
  f45 : 4 ∈ l → 5 ∈ l → vs 4 ≠ vs 5
  f6 : 6 ∈ l → 1 ∈ l ∧ 4 ∈ l
  f7 : 7 ∈ l → 3 ∈ l ∧ 5 ∈ l
theorem Two.start (w0 : World) (n : Nat) (ms : Nat → List F) (vs : Nat → Value) : Two w0 n ms vs [] w0.drew :=
  ⟨below_drew (Below.refl _ _), by simp, by simp, by simp, by simp, by simp, by simp, by simp, by simp, by simp, by simp⟩
theorem upd_ne (vs : Nat → Value) {i j : Nat} (v : Value) (h : j ≠ i) : upd vs i v j = vs j := if_neg h
theorem upd_eq (vs : Nat → Value) (i : Nat) (v : Value) : upd vs i v i = v := if_pos rfl
theorem mem_but {l : List Nat} {i j : Nat} (h : j ∈ l ++ [i]) (hne : j ≠ i) : j ∈ l := by
  rcases List.mem_append.1 h with h | h
  · exact h
  · exact absurd (by simpa using h) hne
section
variable {w0 W W' : World} {n : Nat} {ms : Nat → List F} {vs : Nat → Value} {l : List Nat}
/-- An operation that changes nothing elder. -/
theorem Two.more (I : Two w0 n ms vs l W) (i : Nat) (v : Value) (hi : i ∉ l) (hb : Below W.heap.size W W') (h6 : i ≠ 6) (h7 : i ≠ 7)
    (n0 : i = 0 → v = .int .i64 (n : Int)) (n2 : i = 2 → v = .int .i64 (n : Int)) (n1 : i = 1 → ∃ g, v = .slice (some ⟨g, 0, none⟩) n n ∧ Rws w0 W' g n (fun _ => .slice none 0 0) (fun _ => []) ∧ W.heap.size ≤ g)
    (n3 : i = 3 → ∃ h us, v = .slice (some ⟨h, 0, none⟩) n n ∧ Rws w0 W' h n us ms ∧ W.heap.size ≤ h) (n45 : i = 4 ∨ i = 5 → ∃ b u, v = .pointer (some ⟨b, 0, none⟩) ∧ W.heap.size ≤ b ∧ Blk W' b #[u] 66) : Two w0 n ms (upd vs i v) (l ++ [i]) W' := by
  have rlt : ∀ {g : Nat} {ws : Nat → Value} {ls : Nat → List F}, Rws w0 W g n ws ls → g < W.heap.size := fun r => by
    obtain ⟨cs, hc, _⟩ := r.blk
    exact Blk.lt hc
  refine ⟨bt_ I.b hb, fun h => ?_, fun h => ?_, fun h => ?_, fun h => ?_, fun h k => ?_, fun h => ?_, fun h => ?_, fun h k => ?_, fun h => ?_, fun h => ?_⟩
  · by_cases e : 0 = i
    · rw [← e, upd_eq]
      exact n0 e.symm
    · rw [upd_ne _ _ e]
      exact I.f0 (mem_but h e)
  · by_cases e : 2 = i
    · rw [← e, upd_eq]
      exact n2 e.symm
    · rw [upd_ne _ _ e]
      exact I.f2 (mem_but h e)
  · by_cases e : 1 = i
    · obtain ⟨g, h1, h2, _⟩ := n1 e.symm
      rw [← e, upd_eq]
      exact ⟨g, h1, h2⟩
    · rw [upd_ne _ _ e]
      obtain ⟨g, h1, h2⟩ := I.f1 (mem_but h e)
      exact ⟨g, h1, h2.below hb⟩
  · by_cases e : 3 = i
    · obtain ⟨g, us, h1, h2, _⟩ := n3 e.symm
      rw [← e, upd_eq]
      exact ⟨g, us, h1, h2⟩
    · rw [upd_ne _ _ e]
      obtain ⟨g, us, h1, h2⟩ := I.f3 (mem_but h e)
      exact ⟨g, us, h1, h2.below hb⟩
  · by_cases e : 1 = i
    · obtain ⟨g, h1, _, h3⟩ := n1 e.symm
      obtain ⟨g', us, h4, h5⟩ := I.f3 (mem_but k (by omega))
      rw [← e, upd_eq, upd_ne _ _ (by omega), h1, h4]
      intro he
      have : g = g' := by simpa using he
      have := rlt h5
      omega
    · by_cases e2 : 3 = i
      · obtain ⟨g', us, h4, _, h5⟩ := n3 e2.symm
        obtain ⟨g, h1, h3⟩ := I.f1 (mem_but h (by omega))
        rw [← e2, upd_eq, upd_ne _ _ (by omega), h1, h4]
        intro he
        have : g = g' := by simpa using he
        have := rlt h3
        omega
      · rw [upd_ne _ _ e, upd_ne _ _ e2]
        exact I.f13 (mem_but h e) (mem_but k e2)
  · by_cases e : 4 = i
    · obtain ⟨b, u, h1, h2, h3⟩ := n45 (.inl e.symm)
      rw [← e, upd_eq]
      exact ⟨b, u, h1, Nat.le_trans I.b.size h2, h3, fun h9 => absurd (by rw [← e]; exact (I.f6 (mem_but h9 (by omega))).2) hi⟩
    · rw [upd_ne _ _ e]
      obtain ⟨b, u, h1, h2, h3, h4⟩ := I.f4 (mem_but h e)
      refine ⟨b, u, h1, h2, h3.below hb, fun h9 => ?_⟩
      have h10 := mem_but h9 (fun e => h6 e.symm)
      by_cases e1 : 1 = i
      · exact absurd (by rw [← e1]; exact (I.f6 h10).1) hi
      · rw [upd_ne _ _ e1]
        exact h4 h10
  · by_cases e : 5 = i
    · obtain ⟨b, u, h1, h2, h3⟩ := n45 (.inr e.symm)
      rw [← e, upd_eq]
      exact ⟨b, u, h1, Nat.le_trans I.b.size h2, h3, fun h9 => absurd (by rw [← e]; exact (I.f7 (mem_but h9 (by omega))).2) hi⟩
    · rw [upd_ne _ _ e]
      obtain ⟨b, u, h1, h2, h3, h4⟩ := I.f5 (mem_but h e)
      refine ⟨b, u, h1, h2, h3.below hb, fun h9 => ?_⟩
      have h10 := mem_but h9 (fun e => h7 e.symm)
      by_cases e1 : 3 = i
      · exact absurd (by rw [← e1]; exact (I.f7 h10).1) hi
      · rw [upd_ne _ _ e1]
        exact h4 h10
  · by_cases e : 4 = i
    · obtain ⟨b, u, h1, h2, h3⟩ := n45 (.inl e.symm)
      obtain ⟨b', u', h4, _, h5, _⟩ := I.f5 (mem_but k (by omega))
      rw [← e, upd_eq, upd_ne _ _ (by omega), h1, h4]
      intro he
      have : b = b' := by simpa using he
      have := h5.lt
      omega
    · by_cases e2 : 5 = i
      · obtain ⟨b, u, h1, h2, h3⟩ := n45 (.inr e2.symm)
        obtain ⟨b', u', h4, _, h5, _⟩ := I.f4 (mem_but h (by omega))
        rw [← e2, upd_eq, upd_ne _ _ (by omega), h1, h4]
        intro he
        have : b' = b := by simpa using he
        have := h5.lt
        omega
      · rw [upd_ne _ _ e, upd_ne _ _ e2]
        exact I.f45 (mem_but h e) (mem_but k e2)
  · obtain ⟨h1, h2⟩ := I.f6 (mem_but h (fun e => h6 e.symm))
    exact ⟨List.mem_append_left _ h1, List.mem_append_left _ h2⟩
  · obtain ⟨h1, h2⟩ := I.f7 (mem_but h (fun e => h7 e.symm))
    exact ⟨List.mem_append_left _ h1, List.mem_append_left _ h2⟩
/-- A box is written: the rows are kept. -/
theorem Rws.box {g b : Nat} {ws : Nat → Value} {ls : Nat → List F} {cs : Array Value} {t : TypeId} (h : Rws w0 W g n ws ls) (hB : Blk W b cs t) (h1 : 5 ≠ t) (h2 : t ≠ 40) (u : Value) : Rws w0 (W.setCell ⟨b, 0, none⟩ u) g n ws ls :=
  h.keep (grown_put W b 0 u) (fun e => h.ne_blk hB h2 (by injection e with e; exact e.symm)) (fun j hj => .inr (fun e => own_ne (own_b (h.own j hj)) hB h1 e.symm))
/-- The first store. -/
theorem Two.put6 (I : Two w0 n ms vs l W) (h1 : 1 ∈ l) (h4 : 4 ∈ l) (b : Nat) (u : Value) (h7 : 6 ∉ l) (e4 : vs 4 = .pointer (some ⟨b, 0, none⟩)) (hb : w0.heap.size ≤ b) (hB : Blk W b #[u] 66) (v : Value) : Two w0 n ms (upd vs 6 v) (l ++ [6]) (W.setCell ⟨b, 0, none⟩ (vs 1)) := by
  have up : ∀ j, j ≠ 6 → upd vs 6 v j = vs j := fun j h => upd_ne vs v h
  have mb : ∀ j, j ≠ 6 → j ∈ l ++ [6] → j ∈ l := fun j h k => mem_but k h
  refine ⟨I.b.setCell hb _, fun h => ?_, fun h => ?_, fun h => ?_, fun h => ?_, fun h k => ?_, fun h => ?_, fun h => ?_, fun h k => ?_, fun h => ?_, fun h => ?_⟩
  · rw [up 0 (by decide)]; exact I.f0 (mb 0 (by decide) h)
  · rw [up 2 (by decide)]; exact I.f2 (mb 2 (by decide) h)
  · rw [up 1 (by decide)]
    obtain ⟨g, q1, q2⟩ := I.f1 (mb 1 (by decide) h)
    exact ⟨g, q1, q2.box hB (by decide) (by decide) _⟩
  · rw [up 3 (by decide)]
    obtain ⟨g, us, q1, q2⟩ := I.f3 (mb 3 (by decide) h)
    exact ⟨g, us, q1, q2.box hB (by decide) (by decide) _⟩
  · rw [up 1 (by decide), up 3 (by decide)]; exact I.f13 (mb 1 (by decide) h) (mb 3 (by decide) k)
  · rw [up 4 (by decide), up 1 (by decide)]
    exact ⟨b, vs 1, e4, hb, hB.put _, fun _ => rfl⟩
  · rw [up 5 (by decide), up 3 (by decide)]
    obtain ⟨b', u', q1, q2, q3, q4⟩ := I.f5 (mb 5 (by decide) h)
    refine ⟨b', u', q1, q2, q3.far (fun e => ?_) 0 _, fun h9 => q4 (mb 7 (by decide) h9)⟩
    subst e
    exact I.f45 h4 (mb 5 (by decide) h) (by rw [e4, q1])
  · rw [up 4 (by decide), up 5 (by decide)]; exact I.f45 (mb 4 (by decide) h) (mb 5 (by decide) k)
  · exact ⟨List.mem_append_left _ h1, List.mem_append_left _ h4⟩
  · obtain ⟨q1, q2⟩ := I.f7 (mb 7 (by decide) h)
    exact ⟨List.mem_append_left _ q1, List.mem_append_left _ q2⟩
/-- The second store. -/
theorem Two.put7 (I : Two w0 n ms vs l W) (h3 : 3 ∈ l) (h5 : 5 ∈ l) (b : Nat) (u : Value) (h7 : 7 ∉ l) (e5 : vs 5 = .pointer (some ⟨b, 0, none⟩)) (hb : w0.heap.size ≤ b) (hB : Blk W b #[u] 66) (v : Value) : Two w0 n ms (upd vs 7 v) (l ++ [7]) (W.setCell ⟨b, 0, none⟩ (vs 3)) := by
  have up : ∀ j, j ≠ 7 → upd vs 7 v j = vs j := fun j h => upd_ne vs v h
  have mb : ∀ j, j ≠ 7 → j ∈ l ++ [7] → j ∈ l := fun j h k => mem_but k h
  refine ⟨I.b.setCell hb _, fun h => ?_, fun h => ?_, fun h => ?_, fun h => ?_, fun h k => ?_, fun h => ?_, fun h => ?_, fun h k => ?_, fun h => ?_, fun h => ?_⟩
  · rw [up 0 (by decide)]; exact I.f0 (mb 0 (by decide) h)
  · rw [up 2 (by decide)]; exact I.f2 (mb 2 (by decide) h)
  · rw [up 1 (by decide)]
    obtain ⟨g, q1, q2⟩ := I.f1 (mb 1 (by decide) h)
    exact ⟨g, q1, q2.box hB (by decide) (by decide) _⟩
  · rw [up 3 (by decide)]
    obtain ⟨g, us, q1, q2⟩ := I.f3 (mb 3 (by decide) h)
    exact ⟨g, us, q1, q2.box hB (by decide) (by decide) _⟩
  · rw [up 1 (by decide), up 3 (by decide)]; exact I.f13 (mb 1 (by decide) h) (mb 3 (by decide) k)
  · rw [up 4 (by decide), up 1 (by decide)]
    obtain ⟨b', u', q1, q2, q3, q4⟩ := I.f4 (mb 4 (by decide) h)
    refine ⟨b', u', q1, q2, q3.far (fun e => ?_) 0 _, fun h9 => q4 (mb 6 (by decide) h9)⟩
    subst e
    exact I.f45 (mb 4 (by decide) h) h5 (by rw [e5, q1])
  · rw [up 5 (by decide), up 3 (by decide)]
    exact ⟨b, vs 3, e5, hb, hB.put _, fun _ => rfl⟩
  · rw [up 4 (by decide), up 5 (by decide)]; exact I.f45 (mb 4 (by decide) h) (mb 5 (by decide) k)
  · obtain ⟨q1, q2⟩ := I.f6 (mb 6 (by decide) h)
    exact ⟨List.mem_append_left _ q1, List.mem_append_left _ q2⟩
  · exact ⟨List.mem_append_left _ h3, List.mem_append_left _ h5⟩
end
end Go.Proofs.Ytijeabhfddaoaaa
