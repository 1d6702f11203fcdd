/- The walks of package lagr. -/
import Derived.Test.YtijeabhfddaoaaaPo
import Derived.Test.YtijeabhfddaoaaaM5
namespace Go.Proofs.Ytijeabhfddaoaaa
set_option linter.unusedVariables false
open Go.RowKit Go.Proofs.YtijeabhfddaoaaaW.PrintWords Go.Proofs.Sh

/-! ### slices.Contains of bytes -/
/-- The first place of x, or -1. -/
def idx (l : List F) (x : F) : Int := if x ∈ l then (l.findIdx (· == x) : Int) else -1
set_option maxRecDepth 100000 in
set_option maxHeartbeats 1600000 in
theorem bIndex_c (v : Value) (l : List F) (x : F) (w : World) (hv : Rb w v l) :
   Calls Try.prog 229 #[v, .int .u8 (x.n : Int)] w fun e w' => (∃ z : Int, e = .returned (.int .i64 z) ∧ (0 ≤ z ↔ x ∈ l) ∧ -1 ≤ z) ∧ w = w' := by
  obtain ⟨A, c, rfl, hc, hr⟩ := hv
  have hl := kb_len hr
  go_enter Try.func229, Try.ntmps229
  go_wp2
  go_loop [8] (fun i => ∃ k : Nat, k ≤ l.length ∧ i = .int .i64 k ∧ Hid (x ∉ l.take k)) (fun i => l.length - (intOf i).toNat)
  case atStart => exact ⟨0, by omega, rfl, Lib.hid (by simp)⟩
  case round =>
    obtain ⟨k, hk, rfl, hn⟩ := hrel
    by_cases hlt : k < l.length
    · obtain ⟨ad, rfl, c1⟩ := kb_at hr k hlt
      have hst := take_snoc' l k 0 hlt
      by_cases hcx : l.getD k 0 = x
      · have t2 : ((x.n : Int) == ((l.getD k 0).n : Int)) = true := by rw [hcx]; simp
        have hi : Hid (0 ≤ (k : Int) ↔ x ∈ l) := Lib.hid (iff_of_true (by omega) (by
          refine List.mem_of_mem_take (i := k + 1) ?_
          rw [hst, hcx]; exact List.mem_append.2 (.inr (List.mem_singleton_self _))))
        generalize l.getD k 0 = a at *
        clear hcx hst
        go_wp2
        go_ret
        exact ⟨⟨_, rfl, hi.out, by omega⟩, rfl⟩
      · have t2 : ((x.n : Int) == ((l.getD k 0).n : Int)) = false := beq_eq_false_iff_ne.2 (fun e => hcx (F.n_inj (by omega)))
        have hi : Hid (x ∉ l.take (k + 1)) := Lib.hid (by
          rw [hst]
          exact fun h => (List.mem_append.1 h).elim hn.out (fun h => hcx (List.mem_singleton.1 h).symm))
        generalize l.getD k 0 = a at *
        clear hcx hst
        go_wp2
        exact ⟨⟨k + 1, by omega, by go_num, hi⟩, by simp [intOf]; try omega⟩
    · obtain rfl : k = l.length := by omega
      have h1 := hn.out
      rw [List.take_length] at h1
      have h2 := Lib.hid h1
      clear h1
      go_wp2
      go_ret
      exact ⟨⟨-1, rfl, iff_of_false (by omega) h2.out, by omega⟩, rfl⟩
set_option maxRecDepth 100000 in
set_option maxHeartbeats 1600000 in
theorem bContains_c (v : Value) (l : List F) (x : F) (w : World) (hv : Rb w v l) :
   Calls Try.prog 206 #[v, .int .u8 (x.n : Int)] w fun e w' => e = .returned (.bool (decide (x ∈ l))) ∧ w = w' := by
  go_enter Try.func206, Try.ntmps206
  go_wp2_with fail
  refine (bIndex_c _ _ x _ hv).mono ?_
  rintro e w_ ⟨⟨z, rfl, hz, _⟩, rfl⟩
  have hz : Hid (decide (0 ≤ z) = decide (x ∈ l)) := Lib.hid (decide_eq_decide.2 hz)
  go_wp2
  go_ret
  rw [← hz.out]
  exact ⟨rfl, rfl⟩
/-! ### unlike -/
theorem nodup_take_succ (l : List F) (k : Nat) (h : k < l.length) : (l.take (k + 1)).Nodup ↔ (l.take k).Nodup ∧ l.getD k 0 ∉ l.take k := by
  rw [take_snoc' l k 0 h, List.nodup_append]
  constructor
  · rintro ⟨h1, _, h3⟩
    exact ⟨h1, fun hm => h3 _ hm _ (List.mem_singleton_self _) rfl⟩
  · rintro ⟨h1, h2⟩
    exact ⟨h1, by simp, fun a ha b hb e => h2 (by rw [← List.mem_singleton.1 hb, ← e]; exact ha)⟩
set_option maxRecDepth 100000 in
set_option maxHeartbeats 1600000 in
theorem unlike_c (v : Value) (l : List F) (w : World) (hv : Rb w v l) :
   Calls Try.prog 179 #[v] w fun e w' => e = .returned (.bool (decide l.Nodup)) ∧ w = w' := by
  obtain ⟨A, c, rfl, hc, hr⟩ := hv
  have hl := kb_len hr
  go_enter Try.func179, Try.ntmps179
  go_wp2
  go_loop [7] (fun i => ∃ k : Nat, k ≤ l.length ∧ i = .int .i64 k ∧ Hid ((l.take k).Nodup)) (fun i => l.length - (intOf i).toNat)
  case atStart => exact ⟨0, by omega, rfl, Lib.hid (by simp)⟩
  case round =>
    obtain ⟨k, hk, rfl, hn⟩ := hrel
    by_cases hlt : k < l.length
    · obtain ⟨ad, rfl, c1⟩ := kb_at hr k hlt
      have hns := Lib.hid (nodup_take_succ l k hlt)
      have hkc : (k : Int) ≤ (c : Int) := by omega
      have ht : Rb w (.slice (some ad) k c) (l.take k) := ⟨_, c, by rw [List.length_take, Nat.min_eq_left hk], by rw [List.length_take]; omega, Kd.C_take hr hk⟩
      generalize hx : l.getD k 0 = x at *
      replace hx := Lib.hid hx
      by_cases hm : x ∈ l.take k
      · have hf : Hid (decide l.Nodup = false) := Lib.hid (decide_eq_false (fun h => (hns.out.1 (h.sublist (List.take_sublist _ _))).2 hm))
        have hm := Lib.hid (decide_eq_true hm)
        go_wp2_with fail
        refine (bContains_c _ _ x _ ht).mono ?_
        rintro e w_ ⟨rfl, rfl⟩
        rw [hm.out]
        go_wp2
        go_ret
        rw [hf.out]
        exact ⟨rfl, rfl⟩
      · have hf : Hid ((l.take (k + 1)).Nodup) := Lib.hid (hns.out.2 ⟨hn.out, hm⟩)
        have hm := Lib.hid (decide_eq_false hm)
        go_wp2_with fail
        refine (bContains_c _ _ x _ ht).mono ?_
        rintro e w_ ⟨rfl, rfl⟩
        rw [hm.out]
        go_wp2
        exact ⟨⟨k + 1, by omega, by go_num, hf⟩, by simp [intOf]; try omega⟩
    · obtain rfl : k = l.length := by omega
      have h1 := hn.out
      rw [List.take_length] at h1
      have h2 := Lib.hid (decide_eq_true h1)
      clear h1
      go_wp2
      go_ret
      rw [h2.out]
      exact ⟨rfl, rfl⟩
theorem Own.shape {α : Type} {d : Kd α} {e : Nat} {w0 w : World} {v : Value} {l : List α} (h : Own d e w0 w v l) {n : Nat} (hn : l.length = n) : ∃ A c, v = .slice A n c := by
  obtain ⟨A, c, rfl, _, _⟩ := h.rk
  exact ⟨A, c, by rw [hn]⟩
/-! ### base, with what is called each time -/
/-- Rows of one's own that the block g is none of. -/
theorem Own.keep {w0 w w1 : World} {v : Value} {l : List F} {g : Nat} {row : Option Nat} (h : Ob w0 w v l) (hk : KeepBut w w1 g row) (hg : g < w0.heap.size) (hr : ∀ k, row = some k → k < w0.heap.size) : Ob w0 w1 v l :=
  b_own (hk.own (own_b h) (fun he => by
    have := own_base (own_b h) g he
    omega) (by
    by_cases hn : v.ownBlock = none
    · exact .inl hn
    · refine .inr (fun e => ?_)
      obtain ⟨k, hk⟩ := Option.ne_none_iff_exists'.1 hn
      have h1 := own_base (own_b h) k hk
      have h2 := hr k (e ▸ hk)
      omega))
set_option maxRecDepth 100000 in
set_option maxHeartbeats 3200000 in
theorem base_W (w0 : World) (b : Nat) (v : Value) (l : List F) (hF : IsField w0 b) (hv : Rb w0 v l) (b1 : l.length ≤ 100000) (c0 c1 c2 : Value) (g : Nat) (row : Option Nat) (Inv : Nat → World → Prop) (w : World) (hB : Below w0.heap.size w0 w) (hg : g < w.heap.size) (hrow : ∀ k, row = some k → k < w.heap.size)
   (h0 : Inv 0 w) (hmono : ∀ k w1 w2, Inv k w1 → Below w1.heap.size w1 w2 → Inv k w2)
   (step : ∀ k w1 u, k < l.length → Below w0.heap.size w0 w1 → Inv k w1 → Rb w1 u (F.bas l k) → Calls Try.prog 182 #[.int .i64 (k : Int), u, c0, c1, c2] w1 fun e w2 => e = .returned (.tuple #[]) ∧ Inv (k + 1) w2 ∧ Below w0.heap.size w0 w2 ∧ KeepBut w1 w2 g row) :
   Calls Try.prog 180 #[fp b, v, .func (.func 182) #[] #[c0, c1, c2]] w fun e w' => e = .returned (.tuple #[]) ∧ Inv l.length w' ∧ Below w0.heap.size w0 w' := by
  obtain ⟨A, c, rfl, hc, hr⟩ := hv
  have hl := kb_len hr
  replace hmono := Lib.hid hmono
  replace step := Lib.hid step
  replace h0 := Lib.hid h0
  have hv : Rb w0 (.slice A l.length c) l := ⟨A, c, rfl, hc, hr⟩
  go_enter Try.func180, Try.ntmps180
  go_wp2_with fail
  refine (pRoot_c _ _ l _ (hF.below hB) (hv.below hB) b1).mono ?_
  rintro e w1 ⟨z, rfl, hz, h1⟩
  have hB := bt_ hB h1
  have h0 := Lib.hid (hmono.out _ _ _ h0.out h1)
  have hsz := h1.size
  clear h1
  go_wp2_with fail
  go_loopw [16] (fun i wr => ∃ k : Nat, k ≤ l.length ∧ i = .int .i64 k ∧ Hid (Inv k wr) ∧ Ob w wr z (F.rt l) ∧ Below w0.heap.size w0 wr) (fun i _ => l.length - (intOf i).toNat)
  case atStart => exact ⟨0, by omega, rfl, h0, hz, hB⟩
  case round =>
    clear h0 hz hB
    obtain ⟨k, hk, rfl, h0, hz, hB⟩ := hrel
    by_cases hlt : k < l.length
    · obtain ⟨ad, rfl, d1⟩ := kb_at (Kd.C_below hr hB) k hlt
      have hBS : Hid (F.psc (F.inv (F.ev (l.getD k 0) (F.qt (l.getD k 0) (F.rt l)))) (F.qt (l.getD k 0) (F.rt l)) = F.bas l k) := Lib.hid rfl
      have hlen : (F.rt l).length ≤ 1000000 := by rw [F.rt_len]; omega
      have hlen2 : (F.qt (l.getD k 0) (F.rt l)).length ≤ 100000 := by rw [F.qt_len, F.rt_len]; omega
      generalize l.getD k 0 = x at *
      go_wp2_with fail
      refine (pOver_c _ _ _ x _ (hF.below hB) hz.rk hlen).mono ?_
      rintro e w3 ⟨q, rfl, hq, h⟩
      have hz := hz.below h
      have h0 := Lib.hid (hmono.out _ _ _ h0.out h)
      have hB := bt_ hB h
      clear h
      go_wp2_with fail
      refine (pEval_c _ _ _ x _ (hF.below hB) hq.rk).mono ?_
      rintro e w4 ⟨rfl, h⟩
      have hz := hz.below h.below
      have hq := hq.below h.below
      have h0 := Lib.hid (hmono.out _ _ _ h0.out h.below)
      have hB := bd hB h
      clear h
      go_wp2_with fail
      refine (inv_c _ _ _ (hF.below hB) _ rfl).mono ?_
      rintro e w5 ⟨rfl, h⟩
      have hz := hz.below h.below
      have hq := hq.below h.below
      have h0 := Lib.hid (hmono.out _ _ _ h0.out h.below)
      have hB := bd hB h
      clear h
      go_wp2_with fail
      refine (pScale_c _ _ _ _ _ (hF.below hB) hq.rk hlen2).mono ?_
      rintro e w6 ⟨u, rfl, hu, h⟩
      have hz := hz.below h
      have h0 := Lib.hid (hmono.out _ _ _ h0.out h)
      have hB := bt_ hB h
      rw [hBS.out] at hu
      have hu := hu.rk
      clear h hq hBS
      go_wp2_with fail
      refine (step.out k _ _ hlt hB h0.out hu).mono ?_
      rintro e w7 ⟨rfl, h7, hB7, hk7⟩
      have hz := Own.keep hz hk7 hg hrow
      have h0 := Lib.hid h7
      clear h7 hk7 hB hu
      go_wp2
      exact ⟨⟨k + 1, by omega, by go_num, h0, hz, hB7⟩, by simp [intOf]; try omega⟩
    · obtain rfl : k = l.length := by omega
      go_wp2
      go_end0
      exact ⟨rfl, h0.out, hB⟩
set_option maxRecDepth 100000 in
set_option maxHeartbeats 3200000 in
theorem base_T (w0 : World) (b : Nat) (v : Value) (l : List F) (hF : IsField w0 b) (hv : Rb w0 v l) (b1 : l.length ≤ 100000) (c0 c1 c2 : Value) (g : Nat) (row : Option Nat) (Inv : Nat → World → Prop) (w : World) (hB : Below w0.heap.size w0 w) (hg : g < w.heap.size) (hrow : ∀ k, row = some k → k < w.heap.size)
   (h0 : Inv 0 w) (hmono : ∀ k w1 w2, Inv k w1 → Below w1.heap.size w1 w2 → Inv k w2)
   (step : ∀ k w1 u, k < l.length → Below w0.heap.size w0 w1 → Inv k w1 → Rb w1 u (F.bas l k) → Calls Try.prog 181 #[.int .i64 (k : Int), u, c0, c1, c2] w1 fun e w2 => e = .returned (.tuple #[]) ∧ Inv (k + 1) w2 ∧ Below w0.heap.size w0 w2 ∧ KeepBut w1 w2 g row) :
   Calls Try.prog 180 #[fp b, v, .func (.func 181) #[] #[c0, c1, c2]] w fun e w' => e = .returned (.tuple #[]) ∧ Inv l.length w' ∧ Below w0.heap.size w0 w' := by
  obtain ⟨A, c, rfl, hc, hr⟩ := hv
  have hl := kb_len hr
  replace hmono := Lib.hid hmono
  replace step := Lib.hid step
  replace h0 := Lib.hid h0
  have hv : Rb w0 (.slice A l.length c) l := ⟨A, c, rfl, hc, hr⟩
  go_enter Try.func180, Try.ntmps180
  go_wp2_with fail
  refine (pRoot_c _ _ l _ (hF.below hB) (hv.below hB) b1).mono ?_
  rintro e w1 ⟨z, rfl, hz, h1⟩
  have hB := bt_ hB h1
  have h0 := Lib.hid (hmono.out _ _ _ h0.out h1)
  have hsz := h1.size
  clear h1
  go_wp2_with fail
  go_loopw [16] (fun i wr => ∃ k : Nat, k ≤ l.length ∧ i = .int .i64 k ∧ Hid (Inv k wr) ∧ Ob w wr z (F.rt l) ∧ Below w0.heap.size w0 wr) (fun i _ => l.length - (intOf i).toNat)
  case atStart => exact ⟨0, by omega, rfl, h0, hz, hB⟩
  case round =>
    clear h0 hz hB
    obtain ⟨k, hk, rfl, h0, hz, hB⟩ := hrel
    by_cases hlt : k < l.length
    · obtain ⟨ad, rfl, d1⟩ := kb_at (Kd.C_below hr hB) k hlt
      have hBS : Hid (F.psc (F.inv (F.ev (l.getD k 0) (F.qt (l.getD k 0) (F.rt l)))) (F.qt (l.getD k 0) (F.rt l)) = F.bas l k) := Lib.hid rfl
      have hlen : (F.rt l).length ≤ 1000000 := by rw [F.rt_len]; omega
      have hlen2 : (F.qt (l.getD k 0) (F.rt l)).length ≤ 100000 := by rw [F.qt_len, F.rt_len]; omega
      generalize l.getD k 0 = x at *
      go_wp2_with fail
      refine (pOver_c _ _ _ x _ (hF.below hB) hz.rk hlen).mono ?_
      rintro e w3 ⟨q, rfl, hq, h⟩
      have hz := hz.below h
      have h0 := Lib.hid (hmono.out _ _ _ h0.out h)
      have hB := bt_ hB h
      clear h
      go_wp2_with fail
      refine (pEval_c _ _ _ x _ (hF.below hB) hq.rk).mono ?_
      rintro e w4 ⟨rfl, h⟩
      have hz := hz.below h.below
      have hq := hq.below h.below
      have h0 := Lib.hid (hmono.out _ _ _ h0.out h.below)
      have hB := bd hB h
      clear h
      go_wp2_with fail
      refine (inv_c _ _ _ (hF.below hB) _ rfl).mono ?_
      rintro e w5 ⟨rfl, h⟩
      have hz := hz.below h.below
      have hq := hq.below h.below
      have h0 := Lib.hid (hmono.out _ _ _ h0.out h.below)
      have hB := bd hB h
      clear h
      go_wp2_with fail
      refine (pScale_c _ _ _ _ _ (hF.below hB) hq.rk hlen2).mono ?_
      rintro e w6 ⟨u, rfl, hu, h⟩
      have hz := hz.below h
      have h0 := Lib.hid (hmono.out _ _ _ h0.out h)
      have hB := bt_ hB h
      rw [hBS.out] at hu
      have hu := hu.rk
      clear h hq hBS
      go_wp2_with fail
      refine (step.out k _ _ hlt hB h0.out hu).mono ?_
      rintro e w7 ⟨rfl, h7, hB7, hk7⟩
      have hz := Own.keep hz hk7 hg hrow
      have h0 := Lib.hid h7
      clear h7 hk7 hB hu
      go_wp2
      exact ⟨⟨k + 1, by omega, by go_num, h0, hz, hB7⟩, by simp [intOf]; try omega⟩
    · obtain rfl : k = l.length := by omega
      go_wp2
      go_end0
      exact ⟨rfl, h0.out, hB⟩

/-! ### Weights -/
set_option maxRecDepth 100000 in
set_option maxHeartbeats 3200000 in
theorem wClos (w0 w : World) (b bf bx bo : Nat) (v1 p : Value) (l2 q : List F) (x : F) (k : Nat) (hF : IsField w b)
   (c0 : w.cell? ⟨bf, 0, none⟩ = some (fp b)) (c1 : w.cell? ⟨bx, 0, none⟩ = some (.int .u8 (x.n : Int))) (c2 : w.cell? ⟨bo, 0, none⟩ = some v1)
   (hp : Rb w p q) (hO : Ob w0 w v1 l2) (hk : k < l2.length) :
   Calls Try.prog 182 #[.int .i64 (k : Int), p, .pointer (some ⟨bf, 0, none⟩), .pointer (some ⟨bx, 0, none⟩), .pointer (some ⟨bo, 0, none⟩)] w fun e w' => e = .returned (.tuple #[]) ∧
     Ob w0 w' v1 (l2.set k (F.ev x q)) ∧ w.grownBy w' v1.ownBlock := by
  obtain ⟨g, cap, rfl, hg1, hg2⟩ := hO.form (by omega)
  obtain ⟨c3, f3⟩ := hO.at k hk
  have hk' : (k : Int) < (l2.length : Int) := by omega
  go_enter Try.func182, Try.ntmps182
  go_wp2_with fail
  go_region_law (first
    | (go_simp; go_at_call 74; refine (pEval_c _ _ _ x _ (by first | exact hF | exact hF.drew | exact hF.drewN _) (by first | exact hp | exact hp.drew | exact hp.drewN _)).mono ?_; rintro e w6 ⟨rfl, ⟨n6, rfl⟩⟩)
    | fail)
  all_goals
    obtain ⟨hO2, hgr⟩ := Ob.set (hO.below (pw_below_drewN (Below.refl _ _) (1 + n6))) k (F.ev x q)
    go_end0
    exact ⟨rfl, hO2, ⟨hgr.os, hgr.tape, hgr.output, hgr.size, hgr.block⟩⟩
set_option maxRecDepth 100000 in
set_option maxHeartbeats 3200000 in
theorem weights_no (b : Nat) (v : Value) (l : List F) (x : F) (w : World) (hv : Rb w v l) (hn : ¬ l.Nodup) :
   Calls Try.prog 110 #[fp b, v, .int .u8 (x.n : Int)] w fun e w' => e = .returned (.tuple #[.slice none 0 0, .bool false]) ∧ Below w.heap.size w w' := by
  have E1 := Lib.hid (decide_eq_false hn)
  have hB := below_alloc (below_alloc (Below.refl w.heap.size w) (.cells #[fp b] 22)) (.cells #[.int .u8 (x.n : Int)] 5)
  go_enter Try.func110, Try.ntmps110
  go_wp2_with fail
  refine (unlike_c _ _ _ (hv.below hB)).mono ?_
  rintro e w_ ⟨rfl, rfl⟩
  rw [E1.out]
  go_wp2
  go_ret2
  exact ⟨rfl, hB⟩
/-- What holds each time: the weights so far, and the variables that are caught. -/
structure WInv (w0 : World) (b bf bx bo : Nat) (v1 : Value) (l : List F) (x : F) (k : Nat) (w : World) : Prop where
  row : Ob w0 w v1 (F.wtsTo l x k)
  f : Blk w bf #[fp b] 22
  x : Blk w bx #[.int .u8 (x.n : Int)] 5
  o : Blk w bo #[v1] 40
theorem WInv.below {w0 : World} {b bf bx bo : Nat} {v1 : Value} {l : List F} {x : F} {k : Nat} {w w1 : World} (h : WInv w0 b bf bx bo v1 l x k w) (hb : Below w.heap.size w w1) : WInv w0 b bf bx bo v1 l x k w1 :=
  ⟨h.row.below hb, h.f.below hb, h.x.below hb, h.o.below hb⟩
theorem wStep (wc w0 : World) (b bf bx bo : Nat) (v1 : Value) (l : List F) (x : F) (hF : IsField wc b) (hn : l.length < 255) (hcb : wc.heap.size ≤ w0.heap.size)
   (h1 : ∀ k, v1.ownBlock = some k → k ≠ bf ∧ k ≠ bx ∧ k ≠ bo) (k : Nat) (w : World) (u : Value) (hk : k < l.length) (hB : Below wc.heap.size wc w) (hI : WInv w0 b bf bx bo v1 l x k w) (hu : Rb w u (F.bas l k)) :
   Calls Try.prog 182 #[.int .i64 (k : Int), u, .pointer (some ⟨bf, 0, none⟩), .pointer (some ⟨bx, 0, none⟩), .pointer (some ⟨bo, 0, none⟩)] w fun e w' => e = .returned (.tuple #[]) ∧
     WInv w0 b bf bx bo v1 l x (k + 1) w' ∧ Below wc.heap.size wc w' ∧ KeepBut w w' bo v1.ownBlock := by
  refine (wClos w0 w b bf bx bo v1 u _ _ x k (hF.below hB) (hI.f.cell 0 _ rfl) (hI.x.cell 0 _ rfl) (hI.o.cell 0 _ rfl) hu hI.row (by rw [F.wtsTo_len]; exact hk)).mono ?_
  rintro e w' ⟨rfl, hO, hg⟩
  rw [F.ev_bas_wt l x k hk hn, F.wtsTo_set l x k hk] at hO
  have hne : ∀ t, (t = bf ∨ t = bx ∨ t = bo) → some t ≠ v1.ownBlock := fun t ht he => by
    obtain ⟨a1, a2, a3⟩ := h1 t he.symm
    rcases ht with e | e | e
    · exact a1 e
    · exact a2 e
    · exact a3 e
  refine ⟨rfl, ⟨hO, blk_grown hI.f hg (hne _ (.inl rfl)), blk_grown hI.x hg (hne _ (.inr (.inl rfl))), blk_grown hI.o hg (hne _ (.inr (.inr rfl)))⟩, hB.grown hg hB.size (fun t ht => ?_), KeepBut.of_grown hg bo⟩
  exact Nat.le_trans hcb (own_base (own_b hI.row) t ht)
set_option maxRecDepth 100000 in
set_option maxHeartbeats 3200000 in
theorem weights_yes (b : Nat) (v : Value) (l : List F) (x : F) (w : World) (hF : IsField w b) (hv : Rb w v l) (hn : l.Nodup) (b1 : l.length < 255) :
   Calls Try.prog 110 #[fp b, v, .int .u8 (x.n : Int)] w fun e w' => ∃ z, e = .returned (.tuple #[z, .bool true]) ∧ Ob w w' z (F.wts l x) ∧ Below w.heap.size w w' := by
  have E1 := Lib.hid (decide_eq_true hn)
  obtain ⟨A, c, rfl, hc, hr⟩ := hv
  have hv : Rb w (.slice A l.length c) l := ⟨A, c, rfl, hc, hr⟩
  have hB := below_alloc (below_alloc (Below.refl w.heap.size w) (.cells #[fp b] 22)) (.cells #[.int .u8 (x.n : Int)] 5)
  have d0 := (Blk.new w #[fp b] 22).below (below_alloc (Below.refl _ _) (.cells #[.int .u8 (x.n : Int)] 5))
  have d1 : Blk ((w.alloc (.cells #[fp b] 22)).alloc (.cells #[.int .u8 (x.n : Int)] 5)) (w.heap.size + 1) #[.int .u8 (x.n : Int)] 5 := by
    have := Blk.new (w.alloc (.cells #[fp b] 22)) #[.int .u8 (x.n : Int)] 5
    rwa [World.size_alloc] at this
  have hsz : ((w.alloc (.cells #[fp b] 22)).alloc (.cells #[.int .u8 (x.n : Int)] 5)).heap.size = w.heap.size + 2 := by rw [World.size_alloc, World.size_alloc]
  go_enter Try.func110, Try.ntmps110
  go_wp2_with fail
  refine (unlike_c _ _ _ (hv.below hB)).mono ?_
  rintro e w_ ⟨rfl, rfl⟩
  rw [E1.out]
  go_wp2_with ((with_reducible refine gate_dst (N := 14) rfl ?_); refine mk_len kb rfl (N := 14) rfl 40 5 _ _ rfl _ rfl rfl Try.underlying40 (.int .u8 0) 1 infoB rfl Nat.one_pos (by decide) (0 : F) rfl ?h0 ?hl (Below.refl _ _) ?_; (case h0 => omega); (case hl => omega); intro v1 w1 ho hb hg; (obtain ⟨A1, c1, rfl⟩ := Own.shape ho (n := l.length) (by simp); have d0 := d0.below hb; have d1 := d1.below hb; have e0 := Blk.cell d0 0 _ rfl; have e1 := Blk.cell d1 0 _ rfl; have e0 := pw_cell_below (below_alloc (Below.refl w1.heap.size w1) (.cells #[.slice A1 l.length c1] 40)) e0; have e1 := pw_cell_below (below_alloc (Below.refl w1.heap.size w1) (.cells #[.slice A1 l.length c1] 40)) e1))
  rw [Int.toNat_natCast, ← F.wtsTo_0 l x] at ho
  have hrow := own_lt (own_b ho)
  have hrow2 := own_base (own_b ho)
  have hB1 := bt_ hB hb
  rw [hsz] at hrow2
  have h0 : WInv _ b w.heap.size (w.heap.size + 1) w1.heap.size (.slice A1 l.length c1) l x 0 (w1.alloc (.cells #[.slice A1 l.length c1] 40)) := ⟨ho.alloc _, d0.below (below_alloc (Below.refl _ _) _), d1.below (below_alloc (Below.refl _ _) _), Blk.new _ _ _⟩
  have hB2 := below_alloc hB1 (.cells #[.slice A1 l.length c1] 40)
  have z1 := World.size_alloc w1 (.cells #[.slice A1 l.length c1] 40)
  have z2 := d0.lt
  refine (base_W w b _ l hF hv (by omega) (.pointer (some ⟨w.heap.size, 0, none⟩)) (.pointer (some ⟨w.heap.size + 1, 0, none⟩)) (.pointer (some ⟨w1.heap.size, 0, none⟩)) w1.heap.size (Value.slice A1 l.length c1).ownBlock (WInv _ b w.heap.size (w.heap.size + 1) w1.heap.size (.slice A1 l.length c1) l x) _ hB2 (by rw [z1]; omega) (fun k hk => by rw [z1]; have := hrow k hk; omega) h0 (fun k w1 w2 h hb => h.below hb) (fun k w5 u hk hB5 hI hu => wStep w _ b _ _ _ _ l x hF b1 hB.size (fun k hk => ?_) k w5 u hk hB5 hI hu)).mono ?_
  · have a1 := hrow k hk
    have a2 := hrow2 k hk
    refine ⟨?_, ?_, ?_⟩ <;> omega
  rintro e w5 ⟨rfl, hI, hB5⟩
  have hR := hI.row.lower hB
  rw [F.wtsTo_all] at hR
  have e2 : w5.cell? ⟨w1.heap.size, 0, none⟩ = some (.slice A1 l.length c1) := hI.o.cell 0 _ rfl
  clear hI
  go_wp2
  go_ret2
  exact ⟨_, rfl, hR, hB5⟩
set_option maxRecDepth 100000 in
set_option maxHeartbeats 3200000 in
theorem at_no (b : Nat) (v u : Value) (l m : List F) (x : F) (w : World) (hv : Rb w v l) (hu : Rb w u m) (hn : ¬ l.Nodup) :
   Calls Try.prog 119 #[fp b, v, u, .int .u8 (x.n : Int)] w fun e w' => e = .returned (.tuple #[.int .u8 0, .bool false]) ∧ Below w.heap.size w w' := by
  have hB := Below.refl w.heap.size w
  go_enter Try.func119, Try.ntmps119
  go_wp2_with fail
  refine (weights_no b _ _ x _ hv hn).mono ?_
  rintro e w1 ⟨rfl, h⟩
  have hB := bt_ hB h
  clear h
  go_wp2
  go_ret2
  exact ⟨rfl, hB⟩
set_option maxRecDepth 100000 in
set_option maxHeartbeats 3200000 in
theorem at_len (b : Nat) (v u : Value) (l m : List F) (x : F) (w : World) (hF : IsField w b) (hv : Rb w v l) (hu : Rb w u m) (hn : l.Nodup) (hlm : l.length ≠ m.length) (b1 : l.length < 255) :
   Calls Try.prog 119 #[fp b, v, u, .int .u8 (x.n : Int)] w fun e w' => e = .returned (.tuple #[.int .u8 0, .bool false]) ∧ Below w.heap.size w w' := by
  have hB := Below.refl w.heap.size w
  obtain ⟨A, c, rfl, hc, hr⟩ := hv
  have hv : Rb w (.slice A l.length c) l := ⟨A, c, rfl, hc, hr⟩
  obtain ⟨B, d, rfl, hd, hs⟩ := hu
  have t1 : ((l.length : Int) != (m.length : Int)) = true := bne_iff_ne.2 (by omega)
  clear hc hr hd hs
  go_enter Try.func119, Try.ntmps119
  go_wp2_with fail
  refine (weights_yes b _ _ x _ hF hv hn b1).mono ?_
  rintro e w1 ⟨z, rfl, hz, h⟩
  have hB := bt_ hB h
  go_wp2
  go_ret2
  exact ⟨rfl, hB⟩
set_option maxRecDepth 100000 in
set_option maxHeartbeats 3200000 in
theorem at_yes (b : Nat) (v u : Value) (l m : List F) (x : F) (w : World) (hF : IsField w b) (hv : Rb w v l) (hu : Rb w u m) (hn : l.Nodup) (hlm : l.length = m.length) (b1 : l.length < 255) :
   Calls Try.prog 119 #[fp b, v, u, .int .u8 (x.n : Int)] w fun e w' => e = .returned (.tuple #[.int .u8 ((F.ev x (F.thr l m l.length)).n : Int), .bool true]) ∧ Below w.heap.size w w' := by
  have hB := Below.refl w.heap.size w
  obtain ⟨A, c, rfl, hc, hr⟩ := hv
  have hv : Rb w (.slice A l.length c) l := ⟨A, c, rfl, hc, hr⟩
  obtain ⟨B, d, rfl, hd, hs⟩ := hu
  have hu : Rb w (.slice B m.length d) m := ⟨B, d, rfl, hd, hs⟩
  have t1 : ((l.length : Int) != (m.length : Int)) = false := by simp [hlm]
  have E1 := Lib.hid (F.dot_wts l m x b1)
  replace hlm := Lib.hid hlm
  clear hc hr hd hs
  go_enter Try.func119, Try.ntmps119
  go_wp2_with fail
  refine (weights_yes b _ _ x _ hF hv hn b1).mono ?_
  rintro e w1 ⟨z, rfl, hz, h⟩
  have hB := bt_ hB h
  have hF := hF.below h
  have hu := hu.below h
  clear h
  go_wp2_with fail
  refine (fDot_c _ _ _ _ _ _ hF hz.rk hu).mono ?_
  rintro e w2 ⟨rfl, h⟩
  have hB := bd hB h
  clear h
  rw [E1.out]
  go_wp2
  go_ret2
  exact ⟨rfl, hB⟩
/-! ### Through -/
set_option maxRecDepth 100000 in
set_option maxHeartbeats 3200000 in
theorem tClos (w : World) (b bo bf by' : Nat) (o p u : Value) (s q m : List F) (k : Nat) (hF : IsField w b)
   (d0 : Blk w bo #[o] 40) (c1 : w.cell? ⟨bf, 0, none⟩ = some (fp b)) (c2 : w.cell? ⟨by', 0, none⟩ = some u)
   (ho : Rb w o s) (hp : Rb w p q) (hu : Rb w u m) (hk : k < m.length) (b1 : s.length ≤ 100000) (b2 : q.length ≤ 100000) :
   Calls Try.prog 181 #[.int .i64 (k : Int), p, .pointer (some ⟨bo, 0, none⟩), .pointer (some ⟨bf, 0, none⟩), .pointer (some ⟨by', 0, none⟩)] w fun e w' => e = .returned (.tuple #[]) ∧
     ∃ z w1, w' = w1.setCell ⟨bo, 0, none⟩ z ∧ Ob w w1 z (F.padd s (F.psc (m.getD k 0) q)) ∧ Below w.heap.size w w1 := by
  have c0 := d0.cell 0 _ rfl
  have f0 := blk_frozen d0 0
  obtain ⟨A, c, rfl, hc, hr⟩ := hu
  obtain ⟨ad, rfl, c3⟩ := kb_at hr k hk
  have hk' : (k : Int) < (m.length : Int) := by omega
  generalize m.getD k 0 = y at *
  have b3 : (F.psc y q).length ≤ 1000000 := by rw [List.length_map]; omega
  obtain ⟨A2, c2', rfl, ho1, ho2⟩ := ho
  have ho : Rb w (.slice A2 s.length c2') s := ⟨_, _, rfl, ho1, ho2⟩
  go_enter Try.func181, Try.ntmps181
  go_wp2_with fail
  go_region_law (first
    | (go_simp; go_at_call 84; refine (pScale_c b _ _ y _ (by first | exact hF | exact hF.drew | exact hF.drewN _) (by first | exact hp | exact hp.drew | exact hp.drewN _) b2).mono ?_; rintro e w6 ⟨z6, rfl, hz6, h6⟩; (try replace h6 := buN h6); (try replace h6 := bu h6); have d0 := d0.below h6; have c0 := d0.cell 0 _ rfl; have f0 := blk_frozen d0 0; have ho := ho.below h6; have hz6 := hz6.rk)
    | (go_simp; go_at_call 75; refine (pSum_c _ _ _ _ _ ho hz6 (by omega) b3).mono ?_; rintro e w7 ⟨z7, rfl, hz7, h7⟩; obtain ⟨A7, c7, rfl⟩ := Own.shape hz7 rfl; have d0 := d0.below h7; have c0 := d0.cell 0 _ rfl; have f0 := blk_frozen d0 0)
    | fail)
  all_goals
    go_end0
    exact ⟨rfl, _, w7, rfl, hz7.lower h6, bt_ h6 h7⟩
/-- What holds each time: the sum so far, in the variable that is caught. -/
structure TInv (w0 : World) (b bo bf by' : Nat) (u : Value) (l m : List F) (k : Nat) (w : World) : Prop where
  f : Blk w bf #[fp b] 22
  y : Blk w by' #[u] 40
  o : ∃ v, Blk w bo #[v] 40 ∧ Ob w0 w v (F.thr l m k)
theorem TInv.below {w0 : World} {b bo bf by' : Nat} {u : Value} {l m : List F} {k : Nat} {w w1 : World} (h : TInv w0 b bo bf by' u l m k w) (hb : Below w.heap.size w w1) : TInv w0 b bo bf by' u l m k w1 := by
  obtain ⟨v, h1, h2⟩ := h.o
  exact ⟨h.f.below hb, h.y.below hb, v, h1.below hb, h2.below hb⟩
theorem tStep (wc : World) (b bo bf by' : Nat) (u : Value) (l m : List F) (hF : IsField wc b) (hu : Rb wc u m) (hl : l.length ≤ 100000) (hlm : l.length = m.length) (hbo : wc.heap.size ≤ bo) (n1 : bo ≠ bf) (n2 : bo ≠ by')
   (k : Nat) (w : World) (p : Value) (hk : k < l.length) (hB : Below wc.heap.size wc w) (hI : TInv wc b bo bf by' u l m k w) (hp : Rb w p (F.bas l k)) :
   Calls Try.prog 181 #[.int .i64 (k : Int), p, .pointer (some ⟨bo, 0, none⟩), .pointer (some ⟨bf, 0, none⟩), .pointer (some ⟨by', 0, none⟩)] w fun e w' => e = .returned (.tuple #[]) ∧
     TInv wc b bo bf by' u l m (k + 1) w' ∧ Below wc.heap.size wc w' ∧ KeepBut w w' bo none := by
  obtain ⟨v, h1, h2⟩ := hI.o
  refine (tClos w b bo bf by' v p u _ _ m k (hF.below hB) h1 (hI.f.cell 0 _ rfl) (hI.y.cell 0 _ rfl) h2.rk hp (hu.below hB) (by omega) (by rw [F.thr_len]; exact hl) (by rw [F.bas_len]; exact hl)).mono ?_
  rintro e w' ⟨rfl, z, w1, rfl, hz, hB1⟩
  have a1 : Blk w1 bf #[fp b] 22 := hI.f.below hB1
  have a2 : Blk w1 by' #[u] 40 := hI.y.below hB1
  have a3 : Blk w1 bo #[v] 40 := h1.below hB1
  have hlt := h1.lt
  have hzb : some bo ≠ z.ownBlock := fun he => by
    have := own_base (own_b hz) bo he.symm
    omega
  have hz' : Ob wc (w1.setCell ⟨bo, 0, none⟩ z) z (F.thr l m (k + 1)) := (b_own (own_setCell (own_b hz) (p := ⟨bo, 0, none⟩) hzb z) : Ob w _ z _).lower hB
  refine ⟨rfl, ⟨blk_far a1 (by exact Ne.symm n1) z, blk_far a2 (by exact Ne.symm n2) z, z, ?_, hz'⟩, ?_, ?_⟩
  · have := blk_set a3 0 z
    exact this
  · exact below_set (bt_ hB hB1) hbo
  · exact (KeepBut.of_below hB1 bo none).set_ 0 z
set_option maxRecDepth 100000 in
set_option maxHeartbeats 3200000 in
theorem through_len (b : Nat) (v u : Value) (l m : List F) (w : World) (hv : Rb w v l) (hu : Rb w u m) (hlm : l.length ≠ m.length) :
   Calls Try.prog 109 #[fp b, v, u] w fun e w' => e = .returned (.tuple #[.slice none 0 0, .bool false]) ∧ Below w.heap.size w w' := by
  obtain ⟨A, c, rfl, hc, hr⟩ := hv
  have hv : Rb w (.slice A l.length c) l := ⟨A, c, rfl, hc, hr⟩
  obtain ⟨B, d, rfl, hd, hs⟩ := hu
  have hu : Rb w (.slice B m.length d) m := ⟨B, d, rfl, hd, hs⟩
  have hB := below_alloc (below_alloc (Below.refl w.heap.size w) (.cells #[fp b] 22)) (.cells #[.slice B m.length d] 40)
  have d0 := (Blk.new w #[fp b] 22).below (below_alloc (Below.refl _ _) (.cells #[.slice B m.length d] 40))
  have d1 : Blk ((w.alloc (.cells #[fp b] 22)).alloc (.cells #[.slice B m.length d] 40)) (w.heap.size + 1) #[.slice B m.length d] 40 := by
    have := Blk.new (w.alloc (.cells #[fp b] 22)) #[.slice B m.length d] 40
    rwa [World.size_alloc] at this
  have hsz : ((w.alloc (.cells #[fp b] 22)).alloc (.cells #[.slice B m.length d] 40)).heap.size = w.heap.size + 2 := by rw [World.size_alloc, World.size_alloc]
  have t1 : ((l.length : Int) != (m.length : Int)) = true := bne_iff_ne.2 (by omega)
  go_enter Try.func109, Try.ntmps109
  go_wp2
  go_ret2
  exact ⟨rfl, hB⟩
set_option maxRecDepth 100000 in
set_option maxHeartbeats 3200000 in
theorem through_no (b : Nat) (v u : Value) (l m : List F) (w : World) (hv : Rb w v l) (hu : Rb w u m) (hlm : l.length = m.length) (hn : ¬ l.Nodup) :
   Calls Try.prog 109 #[fp b, v, u] w fun e w' => e = .returned (.tuple #[.slice none 0 0, .bool false]) ∧ Below w.heap.size w w' := by
  obtain ⟨A, c, rfl, hc, hr⟩ := hv
  have hv : Rb w (.slice A l.length c) l := ⟨A, c, rfl, hc, hr⟩
  obtain ⟨B, d, rfl, hd, hs⟩ := hu
  have hu : Rb w (.slice B m.length d) m := ⟨B, d, rfl, hd, hs⟩
  have hB := below_alloc (below_alloc (Below.refl w.heap.size w) (.cells #[fp b] 22)) (.cells #[.slice B m.length d] 40)
  have d0 := (Blk.new w #[fp b] 22).below (below_alloc (Below.refl _ _) (.cells #[.slice B m.length d] 40))
  have d1 : Blk ((w.alloc (.cells #[fp b] 22)).alloc (.cells #[.slice B m.length d] 40)) (w.heap.size + 1) #[.slice B m.length d] 40 := by
    have := Blk.new (w.alloc (.cells #[fp b] 22)) #[.slice B m.length d] 40
    rwa [World.size_alloc] at this
  have hsz : ((w.alloc (.cells #[fp b] 22)).alloc (.cells #[.slice B m.length d] 40)).heap.size = w.heap.size + 2 := by rw [World.size_alloc, World.size_alloc]
  have E1 := Lib.hid (decide_eq_false hn)
  have t1 : ((l.length : Int) != (m.length : Int)) = false := by simp [hlm]
  replace hlm := Lib.hid hlm
  go_enter Try.func109, Try.ntmps109
  go_wp2_with fail
  refine (unlike_c _ _ _ (hv.below hB)).mono ?_
  rintro e w_ ⟨rfl, rfl⟩
  rw [E1.out]
  go_wp2
  go_ret2
  exact ⟨rfl, hB⟩
set_option maxRecDepth 100000 in
set_option maxHeartbeats 3200000 in
theorem through_yes (b : Nat) (v u : Value) (l m : List F) (w : World) (hF : IsField w b) (hv : Rb w v l) (hu : Rb w u m) (hlm : l.length = m.length) (hn : l.Nodup) (b1 : l.length ≤ 1000) :
   Calls Try.prog 109 #[fp b, v, u] w fun e w' => ∃ z, e = .returned (.tuple #[z, .bool true]) ∧ Ob w w' z (F.thr l m l.length) ∧ Below w.heap.size w w' := by
  obtain ⟨A, c, rfl, hc, hr⟩ := hv
  have hv : Rb w (.slice A l.length c) l := ⟨A, c, rfl, hc, hr⟩
  obtain ⟨B, d, rfl, hd, hs⟩ := hu
  have hu : Rb w (.slice B m.length d) m := ⟨B, d, rfl, hd, hs⟩
  have hB := below_alloc (below_alloc (Below.refl w.heap.size w) (.cells #[fp b] 22)) (.cells #[.slice B m.length d] 40)
  have d0 := (Blk.new w #[fp b] 22).below (below_alloc (Below.refl _ _) (.cells #[.slice B m.length d] 40))
  have d1 : Blk ((w.alloc (.cells #[fp b] 22)).alloc (.cells #[.slice B m.length d] 40)) (w.heap.size + 1) #[.slice B m.length d] 40 := by
    have := Blk.new (w.alloc (.cells #[fp b] 22)) #[.slice B m.length d] 40
    rwa [World.size_alloc] at this
  have hsz : ((w.alloc (.cells #[fp b] 22)).alloc (.cells #[.slice B m.length d] 40)).heap.size = w.heap.size + 2 := by rw [World.size_alloc, World.size_alloc]
  have E1 := Lib.hid (decide_eq_true hn)
  have t1 : ((l.length : Int) != (m.length : Int)) = false := by simp [hlm]
  replace hlm := Lib.hid hlm
  go_enter Try.func109, Try.ntmps109
  go_wp2_with fail
  refine (unlike_c _ _ _ (hv.below hB)).mono ?_
  rintro e w_ ⟨rfl, rfl⟩
  rw [E1.out]
  go_wp2_with ((with_reducible refine gate_dst (N := 21) rfl ?_); refine mk_len kb rfl (N := 21) rfl 40 5 _ _ rfl _ rfl rfl Try.underlying40 (.int .u8 0) 1 infoB rfl Nat.one_pos (by decide) (0 : F) rfl ?h0 ?hl (Below.refl _ _) ?_; (case h0 => omega); (case hl => omega); intro v1 w1 ho hb hg; (obtain ⟨A1, c1, rfl⟩ := Own.shape ho (n := l.length) (by simp); have d0 := d0.below hb; have d1 := d1.below hb; have e0 := Blk.cell d0 0 _ rfl; have e0 := pw_cell_below (below_alloc (Below.refl w1.heap.size w1) (.cells #[.slice A1 l.length c1] 40)) e0))
  rw [Int.toNat_natCast] at ho
  replace ho : Ob _ w1 _ (F.thr l m 0) := ho
  have hB1 := bt_ hB hb
  have z0 := d1.lt
  have h0 : TInv w b w1.heap.size w.heap.size (w.heap.size + 1) (.slice B m.length d) l m 0 (w1.alloc (.cells #[.slice A1 l.length c1] 40)) :=
    ⟨d0.below (below_alloc (Below.refl _ _) _), d1.below (below_alloc (Below.refl _ _) _), _, Blk.new _ _ _, (ho.lower hB).alloc _⟩
  have hB2 := below_alloc hB1 (.cells #[.slice A1 l.length c1] 40)
  have z1 := World.size_alloc w1 (.cells #[.slice A1 l.length c1] 40)
  refine (base_T w b _ l hF hv (by omega) (.pointer (some ⟨w1.heap.size, 0, none⟩)) (.pointer (some ⟨w.heap.size, 0, none⟩)) (.pointer (some ⟨w.heap.size + 1, 0, none⟩)) w1.heap.size none (TInv w b w1.heap.size w.heap.size (w.heap.size + 1) (.slice B m.length d) l m) _ hB2 (by rw [z1]; omega) (fun k hk => by cases hk) h0 (fun k w1 w2 h hb => h.below hb) (fun k w5 p hk hB5 hI hp => tStep w b _ _ _ _ l m hF hu (by omega) hlm.out (by omega) (by omega) (by omega) k w5 p hk hB5 hI hp)).mono ?_
  rintro e w5 ⟨rfl, hI, hB5⟩
  obtain ⟨z, h1, h2⟩ := hI.o
  obtain ⟨A7, c7, rfl⟩ := Own.shape h2 rfl
  have e2 : w5.cell? ⟨w1.heap.size, 0, none⟩ = some (.slice A7 _ c7) := h1.cell 0 _ rfl
  clear hI
  go_wp2
  go_ret2
  exact ⟨_, rfl, h2, hB5⟩
end Go.Proofs.Ytijeabhfddaoaaa
