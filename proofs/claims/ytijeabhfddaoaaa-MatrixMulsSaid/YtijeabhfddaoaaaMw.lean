/- The walks of package matrix: wide, Apply, turned. -/
import Derived.Test.YtijeabhfddaoaaaMu
import Derived.Test.YtijeabhfddaoaaaSl
import Derived.Test.YtijeabhfddaoaaaGf
namespace Go.Proofs.Ytijeabhfddaoaaa
set_option linter.unusedVariables false
open Go.RowKit Go.Proofs.YtijeabhfddaoaaaW.PrintWords Go.Proofs.Sh

/-- Does a row not have so many bytes? -/
def badW (n : Int) (r : List F) : Bool := (r.length : Int) != n
/-- Have all rows so many bytes? -/
def allW (n : Int) (a : List (List F)) : Bool := !(a.any (badW n))
theorem allW_iff {n : Nat} {a : List (List F)} : allW (n : Int) a = true ↔ ∀ j, j < a.length → (a.getD j []).length = n := by
  unfold allW
  rw [Bool.not_eq_true', List.any_eq_false]
  constructor
  · intro h j hj
    have := h _ (getD_mem hj)
    unfold badW at this
    have h9 : ((a.getD j []).length : Int) = (n : Int) := by simpa using this
    exact Int.ofNat_inj.1 h9
  · intro h r hr
    obtain ⟨k, hk, rfl⟩ := mem_getD hr
    unfold badW
    rw [h k hk]
    simp
set_option maxRecDepth 100000 in
set_option maxHeartbeats 1600000 in
theorem cfRows_wide (c0 : Value) (q : List F → Bool) (v : Value) (l : List (List F)) (w : World) (hv : Rbb w v l) (hstep : ∀ u r, r ∈ l → Rb w u r → Calls Try.prog 204 #[u, c0] w fun e w' => e = .returned (.bool (q r)) ∧ w = w') :
   Calls Try.prog 165 #[v, .func (.func 204) #[] #[c0]] w fun e w' => e = .returned (.bool (l.any q)) ∧ w = w' := by
  obtain ⟨A, c, rfl, hc, hr⟩ := hv
  have hl : l.length ≤ 9223372036854775807 := hr.2.1
  replace hstep := Lib.hid hstep
  have hidx : Calls Try.prog 202 #[.slice A l.length c, .func (.func 204) #[] #[c0]] w fun e w' => (∃ z : Int, e = .returned (.int .i64 z) ∧ decide (0 ≤ z) = l.any q) ∧ w = w' := by
    go_enter Try.func202, Try.ntmps202
    go_wp2
    go_loop [5, 8] (fun _ i => ∃ k : Nat, k ≤ l.length ∧ i = .int .i64 k ∧ Hid ((l.take k).any q = false)) (fun _ i => l.length - (intOf i).toNat)
    case atStart => exact ⟨0, by omega, rfl, Lib.hid (by simp)⟩
    case round =>
      obtain ⟨k, hk, rfl, hn⟩ := hrel
      by_cases hlt : k < l.length
      · obtain ⟨ad, u, rfl, d0, hu⟩ := kbb_at hr k hlt
        have hm : Hid (l.getD k [] ∈ l) := Lib.hid (by rw [List.getD_eq_getElem?_getD, List.getElem?_eq_getElem hlt]; exact List.getElem_mem hlt)
        have HS := Lib.hid (any_take_succ l q [] k hlt)
        have HT : Hid (q (l.getD k []) = true → l.any q = true) := Lib.hid (fun e => List.any_eq_true.2 ⟨_, hm.out, e⟩)
        generalize l.getD k [] = r at *
        go_wp2_with fail
        refine (hstep.out u r hm.out hu).mono ?_
        rintro e w_ ⟨rfl, rfl⟩
        cases hq : q r with
        | true =>
          have h1 := HT.out hq
          rw [hq] at HS
          replace h1 := Lib.hid h1
          clear hq
          go_wp2
          go_ret
          exact ⟨⟨_, rfl, by rw [h1.out]; exact decide_eq_true (by omega)⟩, rfl⟩
        | false =>
          have hn2 : Hid ((l.take (k + 1)).any q = false) := Lib.hid (by rw [HS.out, hn.out, hq]; rfl)
          clear hq HT HS
          go_wp2
          exact ⟨⟨k + 1, by omega, by go_num, hn2⟩, by simp [intOf]; try omega⟩
      · obtain rfl : k = l.length := by omega
        have h1 := hn.out
        rw [List.take_length] at h1
        replace h1 := Lib.hid h1
        go_wp2
        go_ret
        exact ⟨⟨-1, rfl, by rw [h1.out]; rfl⟩, rfl⟩
  go_enter Try.func165, Try.ntmps165
  go_wp2_with fail
  refine hidx.mono ?_
  rintro e w_ ⟨⟨z, rfl, hz⟩, rfl⟩
  replace hz := Lib.hid hz
  go_wp2
  go_ret
  rw [← hz.out]
  exact ⟨rfl, rfl⟩
set_option maxHeartbeats 400000 in
theorem wide1_c (n : Int) (b : Nat) (u : Value) (r : List F) (w : World) (hc : w.cell? ⟨b, 0, none⟩ = some (.int .i64 n)) (hu : Rb w u r) :
   Calls Try.prog 204 #[u, .pointer (some ⟨b, 0, none⟩)] w fun e w' => e = .returned (.bool (badW n r)) ∧ w = w' := by
  obtain ⟨A, c, rfl, hc2, hr⟩ := hu
  have hb : Hid (badW n r = ((r.length : Int) != n)) := Lib.hid rfl
  go_enter Try.func204, Try.ntmps204
  go_wp2
  go_ret
  rw [hb.out]
  exact ⟨rfl, rfl⟩
set_option maxHeartbeats 400000 in
theorem wide_c (v : Value) (a : List (List F)) (n : Int) (w : World) (hv : Rbb w v a) :
   Calls Try.prog 172 #[v, .int .i64 n] w fun e w' => e = .returned (.bool (allW n a)) ∧ Below w.heap.size w w' := by
  have hB := below_alloc (Below.refl w.heap.size w) (.cells #[.int .i64 n] 3)
  have hb := (Blk.new w #[.int .i64 n] 3).cell 0 _ rfl
  have hA : Hid (allW n a = !(a.any (badW n))) := Lib.hid rfl
  replace hv := hv.below hB
  go_enter Try.func172, Try.ntmps172
  go_wp2_with fail
  refine (cfRows_wide _ (badW n) _ a _ hv (fun u r hr9 hu9 => wide1_c n _ u r _ hb hu9)).mono ?_
  rintro e w4 ⟨rfl, rfl⟩
  go_wp2
  go_ret
  rw [hA.out]
  exact ⟨rfl, hB⟩
set_option maxRecDepth 100000 in
set_option maxHeartbeats 1600000 in
theorem mApply4_no (fv v u : Value) (a : List (List F)) (l : List F) (w : World) (hv : Rbb w v a) (hu : Rb w u l) (h : allW (l.length : Int) a = false) :
   Calls Try.prog 122 #[fv, v, u] w fun e w' => e = .returned (.tuple #[.slice none 0 0, .bool false]) ∧ Below w.heap.size w w' := by
  obtain ⟨A, c, rfl⟩ := rk_form hu
  have hc := Lib.hid (wide_c v a (l.length : Int) w hv)
  rw [h] at hc
  go_enter Try.func122, Try.ntmps122
  go_wp2_with fail
  refine hc.out.mono ?_
  rintro e w1 ⟨rfl, h1⟩
  go_wp2
  go_ret2
  exact ⟨rfl, h1⟩
set_option maxRecDepth 100000 in
set_option maxHeartbeats 1600000 in
theorem mApply4_ok (b : Nat) (v u : Value) (a : List (List F)) (l : List F) (w : World) (hF : IsField w b) (hv : Rbb w v a) (hu : Rb w u l) (h : allW (l.length : Int) a = true) (ha : a.length ≤ 1000) :
   Calls Try.prog 122 #[fp b, v, u] w fun e w' => ∃ z, e = .returned (.tuple #[z, .bool true]) ∧ Ob w w' z (a.map fun r => dot r l) ∧ Below w.heap.size w w' := by
  obtain ⟨A, c, rfl⟩ := rk_form hu
  obtain ⟨B, d, rfl⟩ := rk_form hv
  have hc := Lib.hid (wide_c _ a (l.length : Int) w hv)
  rw [h] at hc
  clear h
  go_enter Try.func122, Try.ntmps122
  go_wp2_with fail
  refine hc.out.mono ?_
  rintro e w1 ⟨rfl, h1⟩
  go_wp2_with ((with_reducible refine gate_dst (N := 18) rfl ?_); refine mk_cap kb rfl 40 5 _ _ rfl .i64 _ rfl rfl Try.underlying40 (.int .u8 0) 1 infoB (by decide) ?h0 ?hl h1 ?_; (case h0 => omega); (case hl => omega); intro v1 w1 ho hb hg)
  have hO : Ob w w1 v1 [] := ho
  have hB := hb
  clear ho hb hg h1
  go_loopw [8, 21] (fun s i wr => ∃ k : Nat, k ≤ a.length ∧ i = .int .i64 k ∧ Ob w wr s ((a.take k).map fun r => dot r l) ∧ Below w.heap.size w wr) (fun _ i _ => a.length - (intOf i).toNat)
  case atStart => exact ⟨0, by omega, rfl, hO, hB⟩
  case round =>
    clear hO hB
    obtain ⟨k, hk, rfl, hO, hB⟩ := hrel
    by_cases hlt : k < a.length
    · have HS : Hid (((a.take (k + 1)).map fun r => dot r l) = ((a.take k).map fun r => dot r l) ++ [dot (a.getD k []) l]) := Lib.hid (by rw [take_snoc' a k [] hlt, List.map_append]; rfl)
      have hol : Hid (((a.take k).map fun r => dot r l).length ≤ 1000) := Lib.hid (by rw [List.length_map, List.length_take]; omega)
      obtain ⟨ad, u1, rfl, d1, hu1⟩ := kbb_at (rk_C (hv.below hB)) k hlt
      have hF' := hF.below hB
      generalize a.getD k [] = r at *
      generalize ((a.take k).map fun r => dot r l) = R at *
      go_wp2_with fail
      refine (fDot_c b u1 _ r l _ hF' hu1 (hu.below hB)).mono ?_
      rintro e w2 ⟨rfl, h2⟩
      have hO2 : Ob w w2 _ _ := hO.drawn h2
      have hB2 := bd hB h2
      have hol9 := hol.out
      go_wp2_with (at_builtin; refine app_one (enc := bV) rfl (.tmp 25) (.tmp 30) 40 5 (.int .u8 0) 1 rfl Try.underlying40 infoB rfl (by decide) _ _ (dot r l) rfl rfl _ (bV_eq ?hc) hO2 hB2 ?hl ?_; (case hc => (first | exact rfl | exact rfl)); (case hl => (first | (simp; omega) | omega)); intro v1 w1 ho hb hg)
      exact ⟨⟨k + 1, by omega, by go_num, by rw [HS.out]; exact ho, hb⟩, by simp [intOf]; try omega⟩
    · obtain rfl : k = a.length := by omega
      rw [List.take_length] at hO
      go_wp2
      go_ret2
      exact ⟨_, rfl, hO, hB⟩
/-- append(v, u...) of bytes; besides it tells where the row lies. -/
theorem wpList_app_z {ops : Array Oper} {rest : List Oper} {o : Oper} {a : Act} {Q : Exit → Act → World → Prop} {w0 W : World} (hgd : o.guard = none) (s x : Operand) (ho : o.op = .call { callee := .builtin .append, args := #[s, x], argTypes := #[40, 40] })
    (v : Value) (xs : List F) (u : Value) (ys : List F) (hs : a.eval s = v) (hx : a.eval x = u) (HO : Ob w0 W v xs) (HU : Rb W u ys) (hy : 0 < ys.length) (HB : Below w0.heap.size w0 W) (hl : xs.length + ys.length ≤ 1000000000)
    (h : ∀ g n cap w1, Ob w0 w1 (.slice (some ⟨g, 0, none⟩) n cap) (xs ++ ys) → Below w0.heap.size w0 w1 → W.grownBy w1 v.ownBlock → ((Value.slice (some ⟨g, 0, none⟩) n cap).ownBlock = v.ownBlock ∨ ∃ b, (Value.slice (some ⟨g, 0, none⟩) n cap).ownBlock = some b ∧ W.heap.size ≤ b) → wpList Try.prog ops Q rest (a.put o.dst (.slice (some ⟨g, 0, none⟩) n cap)) w1) : wpList Try.prog ops Q (o :: rest) a W :=
  wpList_plain hgd fun _ hK => wp_app_z s x ho v xs u ys hs hx HO HU hy HB hl fun g n cap w1 h1 h2 h3 h4 => hK _ _ (h g n cap w1 h1 h2 h3 h4)
theorem alloc_bw (W : World) (o : Obj) : Below W.heap.size W (W.alloc o) := below_alloc (Below.refl _ _) o
/-- A matrix's columns. -/
def colsOf (b : List (List F)) : List (List F) := (List.range (b.getD 0 []).length).map fun k => b.map fun r => r.getD k 0
theorem col_snoc (b : List (List F)) (i k : Nat) (hi : i < b.length) : ((b.take (i + 1)).map fun r => r.getD k 0) = ((b.take i).map fun r => r.getD k 0) ++ [(b.getD i []).getD k 0] := by
  rw [take_snoc' b i [] hi, List.map_append]
  rfl
set_option maxRecDepth 100000 in
set_option maxHeartbeats 1600000 in
theorem turned_c (v : Value) (b : List (List F)) (w : World) (hv : Rbb w v b) (hb : b.length ≤ 1000) (hr : ∀ j, j < b.length → (b.getD j []).length = (b.getD 0 []).length) (hr0 : (b.getD 0 []).length ≤ 1000) :
   Calls Try.prog 186 #[v] w fun e w' => ∃ z, e = .returned z ∧ Rbb w' z (colsOf b) ∧ Below w.heap.size w w' := by
  obtain ⟨B, d, rfl⟩ := rk_form hv
  by_cases h0 : b.length = 0
  · have hC : Hid (colsOf b = []) := Lib.hid (by rw [List.eq_nil_of_length_eq_zero h0]; rfl)
    have t0 : ((b.length : Int) == 0) = true := beq_iff_eq.2 (by omega)
    go_enter Try.func186, Try.ntmps186
    go_wp2
    go_ret
    rw [hC.out]
    exact ⟨_, rfl, (show Obb w w (.slice none 0 0) [] from Own.nil _ _ _ _).rk, Below.refl _ _⟩
  · have hC := Lib.hid (show colsOf b = (List.range (b.getD 0 []).length).map (fun k => b.map fun r => r.getD k 0) from rfl)
    have t0 : ((b.length : Int) == 0) = false := beq_eq_false_iff_ne.2 (by omega)
    have hpos : 0 < b.length := by omega
    obtain ⟨ad, u0, rfl, d0, hu0⟩ := kbb_at (rk_C hv) 0 hpos
    rw [add_0] at d0
    obtain ⟨A0, c0, rfl⟩ := rk_form hu0
    replace hr := Lib.hid hr
    generalize hW : (b.getD 0 []).length = W at *
    clear hu0 hW
    have hW9 : (W : Int) * 24 ≤ 281474976710656 := by omega
    go_enter Try.func186, Try.ntmps186
    go_wp2_with ((with_reducible refine gate_dst (N := 15) rfl ?_); refine mk_raw rfl (N := 15) rfl 66 40 _ _ rfl W rfl rfl Try.underlying66 (.slice none 0 0) 24 infoR rfl (by decide) (by omega) ?_)
    have hR := Rws.made w w W (Nat.le_refl _)
    have hB := below_alloc (Below.refl w.heap.size w) (.cells (madeCells #[.slice none 0 0] W) 40)
    generalize w.alloc (.cells (madeCells #[.slice none 0 0] W) 40) = w1 at *
    generalize w.heap.size = g at hR ⊢
    go_loopw [18] (fun i wr => ∃ (k : Nat) (vs : Nat → Value), k ≤ b.length ∧ i = .int .i64 k ∧ Rws w wr g W vs (fun q => (b.take k).map fun r => r.getD q 0) ∧ Below w.heap.size w wr) (fun i _ => b.length - (intOf i).toNat)
    case atStart => exact ⟨0, _, by omega, rfl, hR.congr (fun j _ => rfl), hB⟩
    case round =>
      clear hR hB
      obtain ⟨i, vs, hi, rfl, hR, hB⟩ := hrel
      by_cases hlt : i < b.length
      · obtain ⟨ad', u1, e1, d1, hu1⟩ := kbb_at (rk_C hv) i hlt
        injection e1 with e1
        subst e1
        obtain ⟨A1, c1, rfl⟩ := rk_form hu1
        rw [hr.out i hlt] at d1 hu1
        have hrl := hr.out i hlt
        obtain ⟨f0, hf0⟩ : ∃ f0, f0 = fun q => (b.take i).map fun r => r.getD q 0 := ⟨_, rfl⟩
        obtain ⟨f1, hf1⟩ : ∃ f1, f1 = fun q => (b.take (i + 1)).map fun r => r.getD q 0 := ⟨_, rfl⟩
        have hcs : Hid (∀ q, f1 q = f0 q ++ [(b.getD i []).getD q 0]) := Lib.hid (fun q => by rw [hf0, hf1]; exact col_snoc b i q hlt)
        have hcl : Hid (∀ q, (f0 q).length ≤ 1000) := Lib.hid (fun q => by rw [hf0, List.length_map, List.length_take]; omega)
        rw [← hf0] at hR
        have HF1 := Lib.hid hf1
        clear hf0 hf1
        have e0 := pw_cell_below hB d1
        generalize b.getD i [] = r at *
        go_wp2_with fail
        go_loopw [24] (fun j ws => ∃ (k : Nat) (vs : Nat → Value), k ≤ W ∧ j = .int .i64 k ∧ Rws w ws g W vs (fun q => if q < k then f1 q else f0 q) ∧ Below w.heap.size w ws) (fun j _ => W - (intOf j).toNat)
        case atStart => exact ⟨0, vs, by omega, rfl, hR.congr (fun q _ => (if_neg (Nat.not_lt_zero _)).symm), hB⟩
        case round =>
          clear hR hB e0
          obtain ⟨k, vs, hk, rfl, hR, hB⟩ := hrel
          by_cases hlt2 : k < W
          · obtain ⟨ad1, q1, e1⟩ := kb_at (rk_C hu1) k (by omega)
            subst q1
            have e2 := pw_cell_below hB e1
            have hO : Ob w wr (vs k) (f0 k) := by
              have := hR.own k hlt2
              simp only [Nat.lt_irrefl, if_false] at this
              exact this
            have hcl9 := hcl.out k
            have q3 := hR.cell k hlt2
            have q4 := hR.frozen k
            have hcg : Hid (∀ q, q < W → (if q = k then f0 k ++ [r.getD k 0] else if q < k then f1 q else f0 q) = if q < k + 1 then f1 q else f0 q) := Lib.hid (fun q hq => by
              by_cases e1 : q = k
              · subst e1
                rw [if_pos rfl, if_pos (Nat.lt_succ_self q), hcs.out]
              · rw [if_neg e1]
                by_cases e2 : q < k
                · rw [if_pos e2, if_pos (by omega)]
                · rw [if_neg e2, if_neg (by omega)])
            generalize hx : r.getD k 0 = x at *
            replace hx := Lib.hid hx
            have hB2 := below_alloc hB (.cells #[.int .u8 (x.n : Int)] 5)
            have hb2 := alloc_bw wr (.cells #[.int .u8 (x.n : Int)] 5)
            have hO2 := hO.below hb2
            have hR2 := hR.below hb2
            have hU2 := lit_b wr [x] #[.int .u8 (x.n : Int)] 5 1 1 rfl rfl (by decide) (by decide)
            have hR0 := Lib.hid hR2
            generalize hvk : vs k = vk at *
            replace hvk := Lib.hid hvk
            go_wp2_with (
              at_builtin
              refine wpList_app_z (w0 := w) rfl (.tmp 34) (.tmp 36) rfl _ (f0 k) _ [x] rfl rfl hO2 hU2 Nat.one_pos hB2 (by show (f0 k).length + 1 ≤ 1000000000; omega) ?_
              intro ga na ca wa ho1 hb1 hg1 hat1
              obtain ⟨z1, z2⟩ := hR0.out.slot k hlt2 (by rw [hvk.out]; exact hg1)
              rw [hvk.out] at z1)
            have hRn := hR0.out.put k hlt2 ho1 (by rw [hvk.out]; exact hg1) (by rw [hvk.out]; exact hat1)
            exact ⟨⟨k + 1, _, by omega, by go_num, hRn.congr hcg.out, below_set hb1 hR0.out.base⟩, by simp [intOf]; try omega⟩
          · obtain rfl : k = W := by omega
            have hRn := hR.congr (ls' := f1) (fun q hq => if_pos hq)
            rw [HF1.out] at hRn
            go_wp2
            exact ⟨⟨i + 1, vs, by omega, by go_num, hRn, hB⟩, by simp [intOf]; try omega⟩
      · obtain rfl : i = b.length := by omega
        rw [List.take_length] at hR
        go_wp2
        go_ret
        exact ⟨_, rfl, by rw [hC.out]; exact hR.reads (by omega), hB⟩
end Go.Proofs.Ytijeabhfddaoaaa
