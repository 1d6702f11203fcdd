/- The walk of matrix.Inverse. -/
import Derived.Test.YtijeabhfddaoaaaMk
import Derived.Test.YtijeabhfddaoaaaMp
import Derived.Test.YtijeabhfddaoaaaMq
import Derived.Laws.EntriesVeiled
import Derived.WalkMore
import Derived.Lib.BufferMore
namespace Go.Proofs.Ytijeabhfddaoaaa
set_option linter.unusedVariables false
set_option linter.unusedSimpArgs false
open Go.RowKit Go.Proofs.YtijeabhfddaoaaaW.PrintWords Go.Proofs.Sh

set_option maxRecDepth 100000 in
set_option maxHeartbeats 1600000 in
theorem mInv_no (b : Nat) (v : Value) (a : List (List F)) (w : World) (hv : Rbb w v a) (h : 256 < a.length ∨ allW (a.length : Int) a = false) :
   Calls Try.prog 103 #[fp b, v] w fun e w' => e = .returned (.tuple #[.slice none 0 0, .bool false]) ∧ Below w.heap.size w w' := by
  have hB := below_alloc (Below.refl w.heap.size w) (.cells #[fp b] 22)
  have hc := fun W h => Lib.hid (wide_c v a (a.length : Int) W h)
  have hv1 := hv.below hB
  obtain ⟨A, c, rfl⟩ := rk_form hv
  by_cases h1 : 256 < a.length
  · have t1 : decide ((256 : Int) < (a.length : Int)) = true := decide_eq_true (by omega)
    clear hc h
    go_enter Try.func103, Try.ntmps103
    go_wp2_with fail
    generalize w.alloc (.cells #[fp b] 22) = w0 at *
    apply wp_scope_straight
    go_wp2
    simp only [Exit.inBlock, Exit.then, Exit.noGoto]
    go_ret2
    exact ⟨rfl, hB⟩
  · have t1 : decide ((256 : Int) < (a.length : Int)) = false := decide_eq_false (by omega)
    rw [h.resolve_left h1] at hc
    clear h h1
    go_enter Try.func103, Try.ntmps103
    go_wp2_with fail
    generalize w.alloc (.cells #[fp b] 22) = w0 at *
    apply wp_scope_straight
    go_wp2_with fail
    refine (hc _ hv1).out.mono ?_
    rintro e w1 ⟨rfl, h1⟩
    go_wp2
    simp only [Exit.inBlock, Exit.then, Exit.noGoto]
    go_ret2
    exact ⟨rfl, bt_ hB h1⟩
set_option maxRecDepth 100000 in
set_option maxHeartbeats 1600000 in
theorem rowClone_c (v : Value) (l : List F) (w : World) (hv : Rb w v l) (hl : l.length ≤ 140737488351232) :
   Calls Try.prog 173 #[v] w fun e w' => ∃ z, e = .returned z ∧ Ob w w' z l ∧ Below w.heap.size w w' := by
  have hL := lit_own (w0 := w) (W := w) [] #[] rfl 0 rfl (by decide) (Nat.le_refl _)
  have hB := below_alloc (Below.refl w.heap.size w) (.cells #[] 5)
  have hv2 := hv.below hB
  obtain ⟨A, c, rfl, hc, hr⟩ := hv
  cases A with
  | none =>
    have h0 : l = [] := by
      rcases l with _ | ⟨x, l⟩
      · rfl
      · obtain ⟨ad, e, _⟩ := kb_at hr 0 (by simp)
        cases e
    subst h0
    have hnil : ∀ W, (binOp .eql 40 (.slice none 0 c) (.slice none 0 0)).run Try.prog W = .ok (.bool true) W := fun W => Lib.run_eql_slice_nil_nil W _ _ Try.underlying40
    go_enter Try.func173, Try.ntmps173
    go_wp2
    go_ret
    exact ⟨_, rfl, Own.nil _ _ _ _, Below.refl _ _⟩
  | some ad =>
    have hnil : ∀ W, (binOp .eql 40 (.slice (some ad) l.length c) (.slice none 0 0)).run Try.prog W = .ok (.bool false) W := fun W => Lib.run_eql_slice_some_nil W _ _ _ Try.underlying40
    go_enter Try.func173, Try.ntmps173
    go_wp2_with (at_builtin; refine app_many (enc := bV) rfl (.tmp 5) (.tmp 6) 40 5 (.int .u8 0) 1 rfl Try.underlying40 infoB rfl (by decide) _ [] l _ rfl rfl hL hv2 hB ?hl ?_; (case hl => (simp; omega)); intro v1 w1 ho hb hg)
    go_ret
    exact ⟨_, rfl, ho, hb⟩
theorem rw_ent {a : List (List F)} {i n : Nat} (h : (a.getD i []).length = n) : a.getD i [] = rw_ n (F.ent a i) := by
  subst h
  exact (F.list_getD (a.getD i []) 0).symm
theorem piv_end (a : F.Mx) (k n f : Nat) : F.piv a k n f n = none := by
  cases f with
  | zero => rfl
  | succ f => exact if_neg (Nat.lt_irrefl _)
theorem piv_on {a : F.Mx} {k n f i : Nat} (hi : i < n) (h : a i k = 0) : F.piv a k n (f + 1) i = F.piv a k n f (i + 1) := by
  show (if i < n then (if a i k = 0 then F.piv a k n f (i + 1) else some i) else none) = _
  rw [if_pos hi, if_pos h]
theorem piv_at {a : F.Mx} {k n f i : Nat} (hi : i < n) (h : a i k ≠ 0) : F.piv a k n (f + 1) i = some i := by
  show (if i < n then (if a i k = 0 then F.piv a k n f (i + 1) else some i) else none) = _
  rw [if_pos hi, if_neg h]
theorem gs_up {n : Nat} {p : F.Mx × F.Mx} {k : Nat} (h : F.gs n p k = none) : ∀ m, k ≤ m → F.gs n p m = none
  | 0, hm => by
    obtain rfl : k = 0 := by omega
    exact h
  | m + 1, hm => by
    by_cases e : k = m + 1
    · rw [← e]; exact h
    · show (F.gs n p m).bind _ = none
      rw [gs_up h m (by omega)]
      rfl
theorem gs_no {n : Nat} {p q : F.Mx × F.Mx} {k : Nat} (h : F.gs n p k = some q) (hk : k < n) (hp : F.piv q.1 k n n k = none) : F.gs n p n = none := by
  refine gs_up (k := k + 1) ?_ n hk
  show (F.gs n p k).bind _ = none
  rw [h]
  show (F.piv q.1 k n n k).map _ = none
  rw [hp]
  rfl
theorem gs_go {n : Nat} {p q : F.Mx × F.Mx} {k i : Nat} (h : F.gs n p k = some q) (hp : F.piv q.1 k n n k = some i) :
    F.gs n p (k + 1) = some (F.cln (F.scl (F.swp q.1 i k) k (F.inv (q.1 i k))) k (F.scl (F.swp q.1 i k) k (F.inv (q.1 i k))) n, F.cln (F.scl (F.swp q.1 i k) k (F.inv (q.1 i k))) k (F.scl (F.swp q.2 i k) k (F.inv (q.1 i k))) n) := by
  show (F.gs n p k).bind _ = _
  rw [h]
  show (F.piv q.1 k n n k).map _ = _
  rw [hp]
  rfl
/-- What a box of a number holds. -/
def boxI (s : Value) (w : World) : Nat := match s with
  | .pointer (some a) => (match w.cell? a with
    | some (.int _ z) => z.toNat
    | _ => 0)
  | _ => 0
theorem boxI_blk {w : World} {b i : Nat} (h : Blk w b #[.int .i64 (i : Int)] 3) : boxI (.pointer (some ⟨b, 0, none⟩)) w = i := by
  unfold boxI
  simp only [h.one]
  exact Int.toNat_natCast i
theorem own_new {w0 w : World} {g n : Nat} {vs : Nat → Value} {ls : Nat → List F} (h : Rws w0 w g n vs ls) : ∀ j, j < n → some w.heap.size ≠ (vs j).ownBlock := fun j hj e => by
  have := own_lt (own_b (h.own j hj)) _ e.symm
  omega
set_option maxRecDepth 100000 in
set_option maxHeartbeats 3200000 in
theorem mInv_ok (b : Nat) (v : Value) (a : List (List F)) (w : World) (hF : IsField w b) (hv : Rbb w v a) (hn : a.length ≤ 256) (hw : allW (a.length : Int) a = true) :
   Calls Try.prog 103 #[fp b, v] w fun e w' => (F.gs a.length (F.ent a, F.one_) a.length = none ∧ e = .returned (.tuple #[.slice none 0 0, .bool false]) ∨ ∃ q z, F.gs a.length (F.ent a, F.one_) a.length = some q ∧ e = .returned (.tuple #[z, .bool true]) ∧ Rbb w' z (F.mat a.length q.2)) ∧ Below w.heap.size w w' := by
  have hB := below_alloc (Below.refl w.heap.size w) (.cells #[fp b] 22)
  have fB := Blk.new w #[fp b] 22
  have hc := fun W h => Lib.hid (wide_c v a (a.length : Int) W h)
  rw [hw] at hc
  have hv1 := hv.below hB
  obtain ⟨A, c, rfl⟩ := rk_form hv
  have t1 : decide ((256 : Int) < (a.length : Int)) = false := decide_eq_false (by omega)
  have hrows := allW_iff.1 hw
  clear hw
  go_enter Try.func103, Try.ntmps103
  go_wp2_with fail
  generalize hw0 : w.alloc (.cells #[fp b] 22) = w0 at *
  clear hw0
  apply wp_scope_straight
  go_wp2_with fail
  refine (hc _ hv1).out.mono ?_
  rintro e w1 ⟨rfl, h1⟩
  have hB0 := hB
  replace hB := bt_ hB h1
  have hF9 : Hid (IsField w1 b) := Lib.hid (hF.below hB)
  replace fB := fB.below h1
  clear h1 hc hv1
  have hmk : ∀ W : World, (Instr.makeSlice 66 (.int .i64 (a.length : Int)) (.int .i64 (a.length : Int))).run Try.prog W = .ok (.slice (some ⟨W.heap.size, 0, none⟩) a.length a.length) (W.alloc (.cells (madeCells #[.slice none 0 0] a.length) 40)) := print_make_of 66 40 (.slice none 0 0) 24 Try.underlying66 infoR rfl (by decide) a.length (by omega)
  go_wp2_with fail
  refine wp_region_inv (Two w1 a.length (fun i => rw_ a.length (F.one_ i))) [([], none), ([(0, some 24)], none), ([], none), ([(2, some 26)], none), ([], none), ([], none), ([(1, some 25), (4, some 7)], none), ([(3, some 27), (5, some 8)], none)] [(0, some 24), (1, some 25), (2, some 26), (3, some 27), (4, some 7), (5, some 8), (6, none), (7, none)] (by kernel_rfl) (by kernel_rfl) (by kernel_rfl) (by kernel_rfl) (Two.start _ _ _ _) ⟨?s0, ?s1, ?s2, ?s3, ?s4, ?s5, ?s6, ?s7, trivial⟩ ?hQ
  case s0 =>
    intro vs l W hi hd I K hK
    simp only [putV, Act.put, List.setIfInBounds_toArray, List.set_cons_zero, List.set_cons_succ] at hK ⊢
    refine tell_do rfl ?_
    go_simp
    exact hK _ _ (I.more 0 _ hi (Below.refl _ _) (by decide) (by decide) (fun _ => rfl) (fun h => absurd h (by decide)) (fun h => absurd h (by decide)) (fun h => absurd h (by decide)) (fun h => absurd h (by decide)))
  case s1 =>
    intro vs l W hi hd I K hK
    have e0 := I.f0 (hd (0, some 24) (by simp))
    simp only [putV, Act.put, List.setIfInBounds_toArray, List.set_cons_zero, List.set_cons_succ, e0] at hK ⊢
    refine tell_do rfl ?_
    go_simp
    exact hK _ _ (I.more 1 _ hi (below_alloc (Below.refl _ _) _) (by decide) (by decide) (fun h => absurd h (by decide)) (fun h => absurd h (by decide)) (fun _ => ⟨_, rfl, Rws.made w1 W a.length I.b.size, Nat.le_refl _⟩) (fun h => absurd h (by decide)) (fun h => absurd h (by decide)))
  case s2 =>
    intro vs l W hi hd I K hK
    simp only [putV, Act.put, List.setIfInBounds_toArray, List.set_cons_zero, List.set_cons_succ] at hK ⊢
    refine tell_do rfl ?_
    go_simp
    exact hK _ _ (I.more 2 _ hi (Below.refl _ _) (by decide) (by decide) (fun h => absurd h (by decide)) (fun _ => rfl) (fun h => absurd h (by decide)) (fun h => absurd h (by decide)) (fun h => absurd h (by decide)))
  case s3 =>
    intro vs l W hi hd I K hK
    have e2 := I.f2 (hd (2, some 26) (by simp))
    simp only [putV, Act.put, List.setIfInBounds_toArray, List.set_cons_zero, List.set_cons_succ, e2] at hK ⊢
    refine tell_do rfl ?_
    go_simp
    go_at_call 123
    refine (mUnit_c a.length hn _).mono ?_
    rintro e w6 ⟨h, us, rfl, sR, h6⟩
    exact hK _ _ (I.more 3 _ hi h6 (by decide) (by decide) (fun h => absurd h (by decide)) (fun h => absurd h (by decide)) (fun h => absurd h (by decide)) (fun _ => ⟨h, us, rfl, sR.lower I.b, sR.base⟩) (fun h => absurd h (by decide)))
  case s4 =>
    intro vs l W hi hd I K hK
    simp only [putV, Act.put, List.setIfInBounds_toArray, List.set_cons_zero, List.set_cons_succ] at hK ⊢
    refine tell_do rfl ?_
    go_simp
    exact hK _ _ (I.more 4 _ hi (below_alloc (Below.refl _ _) _) (by decide) (by decide) (fun h => absurd h (by decide)) (fun h => absurd h (by decide)) (fun h => absurd h (by decide)) (fun h => absurd h (by decide)) (fun _ => ⟨_, _, rfl, Nat.le_refl _, Blk.new _ _ _⟩))
  case s5 =>
    intro vs l W hi hd I K hK
    simp only [putV, Act.put, List.setIfInBounds_toArray, List.set_cons_zero, List.set_cons_succ] at hK ⊢
    refine tell_do rfl ?_
    go_simp
    exact hK _ _ (I.more 5 _ hi (below_alloc (Below.refl _ _) _) (by decide) (by decide) (fun h => absurd h (by decide)) (fun h => absurd h (by decide)) (fun h => absurd h (by decide)) (fun h => absurd h (by decide)) (fun _ => ⟨_, _, rfl, Nat.le_refl _, Blk.new _ _ _⟩))
  case s6 =>
    intro vs l W hi hd I K hK
    have m1 := hd (1, some 25) (by simp)
    have m4 := hd (4, some 7) (by simp)
    obtain ⟨g, e1, r1⟩ := I.f1 m1
    obtain ⟨b4, u4, e4, q4, B4, _⟩ := I.f4 m4
    have c4 := B4.one
    have z4 := blk_frozen B4 0
    simp only [putV, Act.put, List.setIfInBounds_toArray, List.set_cons_zero, List.set_cons_succ, e1, e4] at hK ⊢
    refine tell_do rfl ?_
    go_simp
    have := I.put6 m1 m4 b4 u4 hi e4 q4 B4 undef
    rw [e1] at this
    exact hK _ _ this
  case s7 =>
    intro vs l W hi hd I K hK
    have m3 := hd (3, some 27) (by simp)
    have m5 := hd (5, some 8) (by simp)
    obtain ⟨h, us, e3, r3⟩ := I.f3 m3
    obtain ⟨b5, u5, e5, q5, B5, _⟩ := I.f5 m5
    have c5 := B5.one
    have z5 := blk_frozen B5 0
    simp only [putV, Act.put, List.setIfInBounds_toArray, List.set_cons_zero, List.set_cons_succ, e3, e5] at hK ⊢
    refine tell_do rfl ?_
    go_simp
    have := I.put7 m3 m5 b5 u5 hi e5 q5 B5 undef
    rw [e3] at this
    exact hK _ _ this
  case hQ =>
    intro vs l W hall I
    have m := fun j (h : j < 8) => hall j h
    have e0 := I.f0 (m 0 (by decide))
    have e2 := I.f2 (m 2 (by decide))
    obtain ⟨g, e1, hL⟩ := I.f1 (m 1 (by decide))
    obtain ⟨h, us, e3, hR⟩ := I.f3 (m 3 (by decide))
    obtain ⟨bl, ul, e4, q4, lB, u4⟩ := I.f4 (m 4 (by decide))
    obtain ⟨br, ur, e5, q5, rB, u5⟩ := I.f5 (m 5 (by decide))
    rw [u4 (m 6 (by decide)), e1] at lB
    rw [u5 (m 7 (by decide)), e3] at rB
    have hgh : g ≠ h := fun e => I.f13 (m 1 (by decide)) (m 3 (by decide)) (by rw [e1, e3, e])
    have hlr : bl ≠ br := fun e => I.f45 (m 4 (by decide)) (m 5 (by decide)) (by rw [e4, e5, e])
    have hB2 := I.b
    clear u4 u5
    simp only [putV, Act.put, List.setIfInBounds_toArray, List.set_cons_zero, List.set_cons_succ, e0, e1, e2, e3, e4, e5]
    clear e0 e1 e2 e3 e4 e5 I m hall hmk
    have M : Mat w1 b w.heap.size bl br g h a.length (fun _ => .slice none 0 0) us (fun _ => []) (fun i => rw_ a.length (F.one_ i)) W := ⟨hL, hR, hgh, fun p q _ _ => ne_nil _, fB.below hB2, lB, rB, hB2⟩
    have hv1 := hv.below hB
    clear hL hR hgh lB rB hB2 hB0 q4 q5 hv fB
    go_wp2_with fail
    go_loopw [30] (fun i wr => ∃ (i' : Nat) (vs : Nat → Value), i' ≤ a.length ∧ i = .int .i64 i' ∧ Hid (∀ j, i' ≤ j → vs j = .slice none 0 0) ∧ Mat w1 b w.heap.size bl br g h a.length vs us (fun q => if q < i' then rw_ a.length (F.ent a q) else []) (fun i => rw_ a.length (F.one_ i)) wr) (fun i _ => a.length - (intOf i).toNat)
    case atStart => exact ⟨0, _, by omega, rfl, Lib.hid (fun _ _ => rfl), M.congr (fun q hq => (if_neg (Nat.not_lt_zero _)).symm) (fun _ _ => rfl)⟩
    case round =>
      clear M
      obtain ⟨i, vs, hi, rfl, hnil, M⟩ := hrel
      by_cases hlt : i < a.length
      · obtain ⟨ad, u1, e1, d1, hu⟩ := kbb_at (rk_C (hv1.below M.b)) i hlt
        subst e1
        obtain ⟨A1, c1, rfl⟩ := rk_form hu
        have hrow := Lib.hid (rw_ent (hrows i hlt))
        have hrl : (a.getD i []).length ≤ 140737488351232 := by rw [hrows i hlt]; omega
        generalize a.getD i [] = r at *
        have hcg : Hid (∀ q, q < a.length → (if q = i then r else if q < i then rw_ a.length (F.ent a q) else []) = if q < i + 1 then rw_ a.length (F.ent a q) else []) := Lib.hid (fun q hq => by
          by_cases e1 : q = i
          · subst e1
            rw [if_pos rfl, if_pos (Nat.lt_succ_self q), hrow.out]
          · rw [if_neg e1]
            by_cases e2 : q < i
            · rw [if_pos e2, if_pos (by omega)]
            · rw [if_neg e2, if_neg (by omega)])
        go_wp2_with fail
        refine wp_region_two 6 [.v (.slice (some ⟨g, 0, none⟩) a.length a.length), .v (.int .i64 (i : Int)), .v (.slice (some ad) a.length c), .v (.int .i64 (i : Int)), .v (.pointer (some (ad.add i))), .v (.slice A1 r.length c1), .p (fun _ _ => True), .v (.pointer (some ⟨g, i, none⟩)), .p (fun _ _ => True)] [([], none), ([], none), ([], none), ([], none), ([(2, some 35), (3, some 36)], none), ([(4, some 37)], none), ([(5, some 38)], none), ([(0, some 33), (1, some 34)], none), ([(6, some 39), (7, some 40)], none)] [(0, some 33), (1, some 34), (2, some 35), (3, some 36), (4, some 37), (5, some 38), (6, some 39), (7, some 40), (8, none)] (fun _ _ => True) (fun v W => ∃ A m c, v = .slice A m c ∧ Ob wr W v r ∧ Below wr.heap.size wr W) (fun W => ∃ W' A m c, W = W'.setCell ⟨g, i, none⟩ (.slice A m c) ∧ Ob wr W' (.slice A m c) r ∧ Below wr.heap.size wr W') (by kernel_rfl) (by kernel_rfl) (by kernel_rfl) (by kernel_rfl) (by kernel_rfl) (by kernel_rfl) (by exact ⟨trivial, trivial, trivial, trivial, trivial, trivial, (fun _ _ _ _ _ => trivial), trivial, (fun _ _ _ _ _ => trivial), trivial⟩) (show 6 < 9 by decide) rfl rfl ⟨.inl ⟨by decide, ?s0⟩, .inr ⟨_, rfl, ?l0⟩, .inl ⟨by decide, ?s1⟩, .inr ⟨_, rfl, ?l1⟩, .inl ⟨by decide, ?s2⟩, .inl (by decide), .inl ⟨by decide, ?s3⟩, .inl (by decide), .inl ⟨by decide, ?s4⟩, .inl (by decide), .inl ⟨by decide, ?s5⟩, .inl (by decide), .inr (.inl ⟨rfl, ?ap⟩), .inl (by decide), .inl ⟨by decide, ?s7⟩, .inr ⟨_, rfl, ?l7⟩, .inr (.inr ⟨rfl, ?sto⟩), .inl (by decide), trivial⟩ ?hQ
        case s0 =>
          intro W hB K hK
          simp only [tellK, Act.put, List.setIfInBounds_toArray, List.set_cons_zero, List.set_cons_succ] at hK ⊢
          refine tell_do rfl ?_
          have q0 := (M.lB.below hB).one; have q1 := pw_cell_below hB d1
          go_simp
          exact hK _ (Below.refl _ _)
        case s1 =>
          intro W hB K hK
          simp only [tellK, Act.put, List.setIfInBounds_toArray, List.set_cons_zero, List.set_cons_succ] at hK ⊢
          refine tell_do rfl ?_
          have q0 := (M.lB.below hB).one; have q1 := pw_cell_below hB d1
          go_simp
          exact hK _ (Below.refl _ _)
        case s2 =>
          intro W hB K hK
          simp only [tellK, Act.put, List.setIfInBounds_toArray, List.set_cons_zero, List.set_cons_succ] at hK ⊢
          refine tell_do rfl ?_
          have q0 := (M.lB.below hB).one; have q1 := pw_cell_below hB d1
          go_simp
          exact hK _ (Below.refl _ _)
        case s3 =>
          intro W hB K hK
          simp only [tellK, Act.put, List.setIfInBounds_toArray, List.set_cons_zero, List.set_cons_succ] at hK ⊢
          refine tell_do rfl ?_
          have q0 := (M.lB.below hB).one; have q1 := pw_cell_below hB d1
          go_simp
          exact hK _ (Below.refl _ _)
        case s4 =>
          intro W hB K hK
          simp only [tellK, Act.put, List.setIfInBounds_toArray, List.set_cons_zero, List.set_cons_succ] at hK ⊢
          refine tell_do rfl ?_
          have q0 := (M.lB.below hB).one; have q1 := pw_cell_below hB d1
          go_simp
          exact hK _ (Below.refl _ _)
        case s5 =>
          intro W hB K hK
          simp only [tellK, Act.put, List.setIfInBounds_toArray, List.set_cons_zero, List.set_cons_succ] at hK ⊢
          refine tell_do rfl ?_
          have q0 := (M.lB.below hB).one; have q1 := pw_cell_below hB d1
          go_simp
          exact hK _ (Below.refl _ _)
        case s7 =>
          intro W hB K hK
          simp only [tellK, Act.put, List.setIfInBounds_toArray, List.set_cons_zero, List.set_cons_succ] at hK ⊢
          refine tell_do rfl ?_
          have q0 := (M.lB.below hB).one; have q1 := pw_cell_below hB d1
          go_simp
          exact hK _ (Below.refl _ _)
        case l0 =>
          intro v W hM
          simp only [tellGo]
          intro K hK
          simp only [Act.put, List.setIfInBounds_toArray, List.set_cons_zero, List.set_cons_succ] at hK ⊢
          refine tell_do rfl ?_
          obtain ⟨A, m, c, rfl, hO, hb7⟩ := hM; have q0 := (M.lB.below hb7).one
          go_simp
          exact hK _ _ ⟨rfl, rfl⟩
        case l1 =>
          intro v W hM
          simp only [tellGo]
          intro K hK
          simp only [Act.put, List.setIfInBounds_toArray, List.set_cons_zero, List.set_cons_succ] at hK ⊢
          refine tell_do rfl ?_
          obtain ⟨A, m, c, rfl, hO, hb7⟩ := hM; have q0 := (M.lB.below hb7).one
          go_simp
          exact hK _ _ ⟨rfl, rfl⟩
        case l7 =>
          intro v W hM
          simp only [bareL, List.map_cons, List.map_nil, List.set_cons_zero, List.set_cons_succ, tellGo, sayAt, List.getD_cons_zero, List.getD_cons_succ]
          intro K hK
          simp only [Act.put, List.setIfInBounds_toArray, List.set_cons_zero, List.set_cons_succ] at hK ⊢
          refine tell_do rfl ?_
          obtain ⟨A, m, c, rfl, hO, hb7⟩ := hM; have q0 := (M.lB.below hb7).one
          go_simp
          exact hK _ _ ⟨rfl, rfl⟩
        case ap =>
          intro W hB K hK
          simp only [Act.put, List.setIfInBounds_toArray, List.set_cons_zero, List.set_cons_succ] at hK ⊢
          refine tell_do rfl ?_
          have q0 := (M.lB.below hB).one; have q1 := pw_cell_below hB d1
          go_simp
          go_at_call 173
          refine (rowClone_c _ r _ (hu.below hB) hrl).mono ?_
          rintro e w7 ⟨z, rfl, hz, h7⟩
          obtain ⟨A7, m7, c7, rfl⟩ : ∃ A m c, z = .slice A m c := (rk_form hz.rk).elim fun A h => h.elim fun c h => ⟨A, _, c, h⟩
          exact hK _ _ ⟨_, _, _, rfl, hz.lower hB, bt_ hB h7⟩
        case sto =>
          intro v W hM
          simp only [bareL, List.map_cons, List.map_nil, List.set_cons_zero, List.set_cons_succ, tellGo, sayAt, List.getD_cons_zero, List.getD_cons_succ]
          intro K hK
          simp only [Act.put, List.setIfInBounds_toArray, List.set_cons_zero, List.set_cons_succ] at hK ⊢
          refine tell_do rfl ?_
          obtain ⟨A, m, c, rfl, hO, hb7⟩ := hM
          have z1 := (M.L.below hb7).cell i hlt
          have z2 := (M.L.below hb7).frozen i
          go_simp
          exact hK undef _ ⟨W, A, m, c, rfl, hO, hb7⟩
        case hQ =>
          intro v W hP
          simp only [bareL, List.map_cons, List.map_nil, List.set_cons_zero, List.set_cons_succ, tellGo, sayAt, List.getD_cons_zero, List.getD_cons_succ]
          intro v8 _
          simp only [Act.put, List.setIfInBounds_toArray, List.set_cons_zero, List.set_cons_succ]
          obtain ⟨W', A7, m7, c7, rfl, hO7, hb7⟩ := hP
          have M2 := M.put i hlt (hnil.out i (Nat.le_refl _)) hO7 hb7
          go_wp2
          exact ⟨⟨i + 1, _, by omega, by go_num, Lib.hid (fun j hj => by show (if j = i then _ else vs j) = _; rw [if_neg (by omega)]; exact hnil.out j (by omega)), M2.congr hcg.out (fun _ _ => rfl)⟩, by simp [intOf]; try omega⟩
      · obtain rfl : i = a.length := by omega
        have M := M.congr (ls' := fun q => rw_ a.length (F.ent a q)) (fun q hq => if_pos hq) (fun _ _ => rfl)
        clear hv1
        go_wp2_with fail
        apply wp_label
        go_wp2_with fail
        have hB9 : Hid (Below w.heap.size w w1) := Lib.hid hB
        clear hB
        go_loopw [44] (fun i wr => ∃ (k : Nat) (q : F.Mx × F.Mx) (vs us : Nat → Value), k ≤ a.length ∧ i = .int .i64 k ∧ Hid (F.gs a.length (F.ent a, F.one_) k = some q) ∧ Mat w1 b w.heap.size bl br g h a.length vs us (fun i => rw_ a.length (q.1 i)) (fun i => rw_ a.length (q.2 i)) wr) (fun i _ => a.length - (intOf i).toNat)
        case atStart => exact ⟨0, (F.ent a, F.one_), _, _, by omega, rfl, Lib.hid rfl, M⟩
        case round =>
          clear M
          obtain ⟨k, q, vs, us, hk, rfl, hgs, M⟩ := hrel
          by_cases hkn : k < a.length
          · have kB := (Blk.new wr #[.int .i64 (k : Int)] 3).alloc (.cells #[.int .i64 (k : Int)] 3)
            have iB := Blk.new' (wr.alloc (.cells #[.int .i64 (k : Int)] 3)) #[.int .i64 (k : Int)] 3 (n := wr.heap.size + 1) (by show (wr.heap.push _).size = _; exact Array.size_push _)
            have M3 := M.below (below_alloc (below_alloc (Below.refl wr.heap.size wr) (.cells #[.int .i64 (k : Int)] 3)) (.cells #[.int .i64 (k : Int)] 3))
            go_wp2_with fail
            generalize ((wr.alloc (.cells #[.int .i64 (k : Int)] 3)).alloc (.cells #[.int .i64 (k : Int)] 3)) = w3 at *
            generalize wr.heap.size = bk at *
            generalize bk + 1 = bi0 at *
            clear M
            go_loopw [12] (fun s wx => ∃ (i bi : Nat), s = .pointer (some ⟨bi, 0, none⟩) ∧ k ≤ i ∧ i ≤ a.length ∧ Blk wx bi #[.int .i64 (i : Int)] 3 ∧ Blk wx bk #[.int .i64 (k : Int)] 3 ∧ Mat w1 b w.heap.size bl br g h a.length vs us (fun i => rw_ a.length (q.1 i)) (fun i => rw_ a.length (q.2 i)) wx ∧ Hid (F.piv q.1 k a.length (a.length + k - i) i = F.piv q.1 k a.length a.length k)) (fun s wx => a.length - boxI s wx)
            case atStart => exact ⟨k, bi0, rfl, Nat.le_refl _, hk, iB, kB, M3, Lib.hid (by rw [Nat.add_sub_cancel])⟩
            case round =>
              clear M3 iB kB
              obtain ⟨i, bi, rfl, hki, hi, iB, kB, M, hpv⟩ := hrel
              have i0 := iB.one
              by_cases hin : i < a.length
              · have l0 := M.lB.one
                have k0 := kB.one
                have oI := M.L.own i hin
                obtain ⟨gi, ci, eI, _, _⟩ := oI.form (by rw [rw_len]; omega)
                rw [rw_len] at eI
                have cI := M.L.cell i hin
                rw [eI] at cI oI
                obtain ⟨e1, _⟩ := oI.at k (by rw [rw_len]; exact hkn)
                rw [rw_at _ hkn] at e1
                have hpv2 : Hid (q.1 i k = 0 → F.piv q.1 k a.length (a.length + k - (i + 1)) (i + 1) = F.piv q.1 k a.length a.length k) := Lib.hid (fun h => by rw [← hpv.out, show a.length + k - i = a.length + k - (i + 1) + 1 by omega, piv_on hin h])
                have hpv3 : Hid (q.1 i k ≠ 0 → F.piv q.1 k a.length a.length k = some i) := Lib.hid (fun h => by rw [← hpv.out, show a.length + k - i = a.length + k - (i + 1) + 1 by omega, piv_at hin h])
                clear oI hpv
                generalize hx : q.1 i k = x at *
                go_wp2_with fail
                go_region_held3 (fun w' => w'.cell? ⟨bl, 0, none⟩ = some (.slice (some ⟨g, 0, none⟩) a.length a.length) ∧ w'.cell? ⟨bi, 0, none⟩ = some (.int .i64 (i : Int)) ∧ w'.cell? ⟨bk, 0, none⟩ = some (.int .i64 (k : Int)) ∧ w'.cell? ⟨g, i, none⟩ = some (.slice (some ⟨gi, 0, none⟩) a.length ci) ∧ w'.cell? ⟨gi, k, none⟩ = some (.int .u8 (x.n : Int)))
                  (go_keep)
                  (first
                    | fail)
                have hb4 := below_drew (below_alloc (Below.refl wr.heap.size wr) (.cells #[.int .u8 (x.n : Int)] 5))
                have cB := (Blk.new wr #[.int .u8 (x.n : Int)] 5).below (below_drew (Below.refl _ _))
                have hbc := own_new M.L
                have hbd := own_new M.R
                have m1 := Lib.hid (boxI_blk iB)
                replace M := M.below hb4
                replace iB := iB.below hb4
                replace kB := kB.below hb4
                clear hb4 i0 l0 k0 cI e1
                generalize (wr.alloc (.cells #[.int .u8 (x.n : Int)] 5)).drew = w4 at *
                generalize wr.heap.size = bc at *
                have c0 := cB.one
                by_cases h0 : x = 0
                · have t2 : ((x.n : Int) == 0) = true := beq_iff_eq.2 (by rw [h0]; rfl)
                  have hp := Lib.hid (hpv2.out h0)
                  have i0 := iB.one
                  clear hpv2 hpv3 hx h0
                  have iN : Blk (w4.alloc (.cells #[.int .i64 ((i : Int) + 1)] 3)) w4.heap.size #[.int .i64 ((i + 1 : Nat) : Int)] 3 := by
                    rw [show ((i + 1 : Nat) : Int) = (i : Int) + 1 by omega]
                    exact Blk.new _ _ _
                  go_wp2
                  exact ⟨⟨i + 1, w4.heap.size, rfl, by omega, by omega, iN, kB.alloc _, M.below (below_alloc (Below.refl _ _) _), hp⟩, by rw [m1.out, boxI_blk iN]; omega⟩
                · have t2 : ((x.n : Int) == 0) = false := n_beq_zero h0
                  have hp := Lib.hid (hpv3.out h0)
                  clear hpv2 hpv3 h0
                  replace hx := Lib.hid hx
                  have hF4 := hF9.out
                  go_wp2_with fail
                  refine (inv1_c b w.heap.size bi bk bc bl br g h a.length i k vs us q.1 q.2 x w1 _ hF4 hin hkn (by omega) M.L M.R M.ne M.ap M.b M.lB M.rB M.fB iB kB cB hbc hbd).mono ?_
                  rintro e w5 ⟨rfl, hL5, hR5, hB5, hK5⟩
                  have lB5 := hK5 _ _ _ M.lB (by decide) (by decide)
                  have rB5 := hK5 _ _ _ M.rB (by decide) (by decide)
                  have fB5 := hK5 _ _ _ M.fB (by decide) (by decide)
                  have kB5 := hK5 _ _ _ kB (by decide) (by decide)
                  have hap5 := ap_sw hin hkn M.ap
                  have hne := M.ne
                  clear M iB kB cB c0 hbc hbd hK5
                  have l0 := lB5.one
                  have r0 := rB5.one
                  have f0 := fB5.one
                  have k0 := kB5.one
                  go_wp2_with fail
                  refine (mClean_c b g h a.length k _ _ _ _ w1 _ hF4 hkn (by omega) hL5 hR5 hne hap5 hB5).mono ?_
                  rintro e w6 ⟨rfl, hL6, hR6, hB6, hK6⟩
                  have M6 : Mat w1 b w.heap.size bl br g h a.length _ _ _ _ w6 := ⟨hL6, hR6, hne, hap5, hK6 _ _ _ fB5 (by decide) (by decide), hK6 _ _ _ lB5 (by decide) (by decide), hK6 _ _ _ rB5 (by decide) (by decide), hB6⟩
                  have hgs2 := Lib.hid (gs_go hgs.out hp.out)
                  rw [hx.out] at hgs2
                  clear hL5 hR5 hL6 hR6 hK6 l0 r0 f0 k0 lB5 rB5 fB5 kB5
                  go_wp2
                  exact ⟨⟨k + 1, _, _, _, by omega, by go_num, hgs2, M6⟩, by simp [intOf]; try omega⟩
              · obtain rfl : i = a.length := by omega
                have hno := Lib.hid (gs_no hgs.out hkn (by rw [← hpv.out]; exact piv_end _ _ _ _))
                have hb9 := bt_ hB9.out M.b
                clear hgs hpv
                go_wp2
                simp only [Exit.inBlock, Exit.then, Exit.noGoto]
                go_ret2
                exact ⟨.inl ⟨hno.out, rfl⟩, hb9⟩
          · obtain rfl : k = a.length := by omega
            have r0 := M.rB.one
            have hR9 := M.R.reads (by omega)
            have hb9 := bt_ hB9.out M.b
            have hq9 := Lib.hid hgs.out
            clear hgs
            go_wp2
            simp only [Exit.inBlock, Exit.then, Exit.noGoto]
            go_ret2
            exact ⟨.inr ⟨q, _, hq9.out, rfl, hR9⟩, hb9⟩
end Go.Proofs.Ytijeabhfddaoaaa
