/- The walks of the reference of layer 4: Width, Unit, without; and of sherdlaw04.few. -/
import Derived.Test.YtijeabhfddaoaaaR04s
import Derived.Test.YtijeabhfddaoaaaM6
import Derived.Test.YtijeabhfddaoaaaK7
namespace Go.Proofs.Ytijeabhfddaoaaa
set_option linter.unusedVariables false
open Go.RowKit Go.Proofs.YtijeabhfddaoaaaW.PrintWords Go.Proofs.Sh

/-- A matrix's width; below 0: it is none. -/
def wid (a : List (List F)) : Int := if a = [] then 0 else if ∀ r ∈ a, r.length = (a.getD 0 []).length then ((a.getD 0 []).length : Int) else -1
theorem wid_nil : wid [] = 0 := rfl
theorem getD_mem {a : List (List F)} {k : Nat} (hk : k < a.length) : a.getD k [] ∈ a := by
  rw [List.getD_eq_getElem?_getD, List.getElem?_eq_getElem hk]
  exact List.getElem_mem hk
theorem mem_getD {a : List (List F)} {r : List F} (h : r ∈ a) : ∃ k, k < a.length ∧ a.getD k [] = r := by
  obtain ⟨k, hk, e⟩ := List.mem_iff_getElem.1 h
  exact ⟨k, hk, by rw [List.getD_eq_getElem?_getD, List.getElem?_eq_getElem hk]; exact e⟩
theorem wid_yes {a : List (List F)} (h0 : a.length ≠ 0) (h : ∀ j, j < a.length → (a.getD j []).length = (a.getD 0 []).length) : wid a = ((a.getD 0 []).length : Int) := by
  unfold wid
  rw [if_neg (fun e => h0 (by rw [e]; rfl)), if_pos (fun r hr => by obtain ⟨k, hk, rfl⟩ := mem_getD hr; exact h k hk)]
theorem wid_no {a : List (List F)} {k : Nat} (hk : k < a.length) (h : (a.getD k []).length ≠ (a.getD 0 []).length) : wid a = -1 := by
  unfold wid
  rw [if_neg (fun e => by rw [e] at hk; simp at hk), if_neg (fun h' => h (h' _ (getD_mem hk)))]
set_option maxHeartbeats 800000 in
theorem rWidth_c (v : Value) (a : List (List F)) (w : World) (hv : Rbb w v a) :
   Calls Try.prog 104 #[v] w fun e w' => e = .returned (.int .i64 (wid a)) ∧ Drawn0 w w' := by
  obtain ⟨A, c, rfl⟩ := rk_form hv
  have hl : a.length ≤ 9223372036854775807 := (rk_C hv).2.1
  by_cases h0 : a.length = 0
  · have hw : Hid (wid a = 0) := Lib.hid (by rw [List.eq_nil_of_length_eq_zero h0]; rfl)
    have t0 : ((a.length : Int) == 0) = true := beq_iff_eq.2 (by omega)
    go_enter Try.func104, Try.ntmps104
    go_wp2
    go_ret
    rw [hw.out]
    exact ⟨rfl, Drawn0.refl _⟩
  · have t0 : ((a.length : Int) == 0) = false := beq_eq_false_iff_ne.2 (by omega)
    have hy := Lib.hid (fun h => wid_yes (a := a) h0 h)
    have hn := Lib.hid (fun k hk h => wid_no (a := a) (k := k) hk h)
    obtain ⟨ad, u0, rfl, d0, hu0⟩ := kbb_at (rk_C hv) 0 (by omega)
    rw [add_0] at d0
    obtain ⟨A0, c0, rfl⟩ := rk_form hu0
    generalize hr0 : (a.getD 0 []).length = n0 at *
    clear hu0 hr0
    go_enter Try.func104, Try.ntmps104
    go_wp2_with fail
    go_loopw [3] (fun i wr => ∃ k : Nat, k ≤ a.length ∧ i = .int .i64 k ∧ Hid (∀ j, j < k → (a.getD j []).length = n0) ∧ Drawn0 w wr) (fun i _ => a.length - (intOf i).toNat)
    case atStart => exact ⟨0, by omega, rfl, Lib.hid (fun j hj => absurd hj (Nat.not_lt_zero _)), Drawn0.refl _⟩
    case round =>
      obtain ⟨k, hk, rfl, hr', hD⟩ := hrel
      replace d0 := pw_cell_below hD.below d0
      by_cases hlt : k < a.length
      · obtain ⟨ad', u1, e1, d1, hu1⟩ := kbb_at (rk_C (hv.below hD.below)) k hlt
        injection e1 with e1
        subst e1
        obtain ⟨A1, c1, rfl⟩ := rk_form hu1
        by_cases e : (a.getD k []).length = n0
        · have hi' : Hid (∀ j, j < k + 1 → (a.getD j []).length = n0) := Lib.hid (fun j hj => by
            by_cases e2 : j = k
            · rw [e2]; exact e
            · exact hr'.out j (by omega))
          have t1 : (((a.getD k []).length : Int) != (n0 : Int)) = false := by rw [e]; simp
          generalize (a.getD k []).length = n1 at *
          go_wp2
          go_quiet (fail)
          go_wp2
          exact ⟨⟨k + 1, by omega, by go_num, hi', hD.step _⟩, by simp [intOf]; omega⟩
        · have hi' : Hid (wid a = -1) := Lib.hid (hn.out k hlt e)
          have t1 : (((a.getD k []).length : Int) != (n0 : Int)) = true := by rw [bne_iff_ne]; omega
          generalize (a.getD k []).length = n1 at *
          go_wp2
          go_quiet (fail)
          go_wp2
          go_ret
          exact ⟨by rw [hi'.out]; rfl, hD.step _⟩
      · obtain rfl : k = a.length := by omega
        go_wp2
        go_ret
        exact ⟨by rw [hy.out hr'.out]; rfl, hD⟩
/-- Is a matrix not too much? -/
def fewM (a : List (List F)) : Bool := decide (a.length ≤ 8) && a.all fun r => decide (r.length ≤ 8)
theorem fewM_no {a : List (List F)} {k : Nat} (hk : k < a.length) (h : 8 < (a.getD k []).length) : fewM a = false := by
  unfold fewM
  rw [Bool.and_eq_false_iff]
  exact .inr (List.all_eq_false.2 ⟨_, getD_mem hk, by rw [decide_eq_false (by omega)]; decide⟩)
theorem fewM_yes {a : List (List F)} (h : ∀ j, j < a.length → (a.getD j []).length ≤ 8) : fewM a = decide (a.length ≤ 8) := by
  unfold fewM
  rw [List.all_eq_true.2 (fun r hr => by obtain ⟨k, hk, rfl⟩ := mem_getD hr; exact decide_eq_true (h k hk)), Bool.and_true]
theorem fewM_iff {a : List (List F)} : fewM a = true ↔ a.length ≤ 8 ∧ ∀ r ∈ a, r.length ≤ 8 := by
  unfold fewM
  rw [Bool.and_eq_true, List.all_eq_true]
  simp
set_option maxHeartbeats 800000 in
theorem few_c (v : Value) (a : List (List F)) (w : World) (hv : Rbb w v a) :
   Calls Try.prog 101 #[v] w fun e w' => e = .returned (.bool (fewM a)) ∧ w = w' := by
  obtain ⟨A, c, rfl⟩ := rk_form hv
  have hl : a.length ≤ 9223372036854775807 := (rk_C hv).2.1
  have hy := Lib.hid (fun h => fewM_yes (a := a) h)
  have hn := Lib.hid (fun k hk h => fewM_no (a := a) (k := k) hk h)
  have hle : Hid (decide ((a.length : Int) ≤ 8) = decide (a.length ≤ 8)) := Lib.hid (decide_eq_decide.2 (by omega))
  go_enter Try.func101, Try.ntmps101
  go_wp2_with fail
  go_loop [7] (fun i => ∃ k : Nat, k ≤ a.length ∧ i = .int .i64 k ∧ Hid (∀ j, j < k → (a.getD j []).length ≤ 8)) (fun i => a.length - (intOf i).toNat)
  case atStart => exact ⟨0, by omega, rfl, Lib.hid (fun j hj => absurd hj (Nat.not_lt_zero _))⟩
  case round =>
    obtain ⟨k, hk, rfl, hr'⟩ := hrel
    by_cases hlt : k < a.length
    · obtain ⟨ad', u1, rfl, d1, hu1⟩ := kbb_at (rk_C hv) k hlt
      obtain ⟨A1, c1, rfl⟩ := rk_form hu1
      by_cases e : 8 < (a.getD k []).length
      · have hi' := Lib.hid (hn.out k hlt e)
        generalize (a.getD k []).length = n1 at *
        go_wp2
        go_ret
        exact ⟨by rw [hi'.out]; rfl, rfl⟩
      · have hi' : Hid (∀ j, j < k + 1 → (a.getD j []).length ≤ 8) := Lib.hid (fun j hj => by
          by_cases e2 : j = k
          · rw [e2]; omega
          · exact hr'.out j (by omega))
        have t1 : decide ((8 : Int) < ((a.getD k []).length : Int)) = false := decide_eq_false (by omega)
        generalize (a.getD k []).length = n1 at *
        go_wp2
        exact ⟨⟨k + 1, by omega, by go_num, hi'⟩, by simp [intOf]; omega⟩
    · obtain rfl : k = a.length := by omega
      go_wp2
      go_ret
      exact ⟨by rw [hy.out hr'.out, ← hle.out]; rfl, rfl⟩
/-- The unit matrix's row, so far. -/
theorem one_row (n i j : Nat) : ((List.range (j + 1)).map (F.one_ i)) = (List.range j).map (F.one_ i) ++ [F.one_ i j] := by rw [List.range_succ, List.map_append]; rfl
set_option maxRecDepth 100000 in
set_option maxHeartbeats 1600000 in
theorem rUnit_c (n : Nat) (hn : n ≤ 1000) (w : World) :
   Calls Try.prog 107 #[.int .i64 (n : Int)] w fun e w' => ∃ z, e = .returned z ∧ Obb w w' z (F.mat n F.one_) ∧ Below w.heap.size w w' := by
  have hB := Below.refl w.heap.size w
  have HM := Lib.hid (show F.mat n F.one_ = (List.range n).map (fun i => (List.range n).map (F.one_ i)) from rfl)
  go_enter Try.func107, Try.ntmps107
  go_wp2_with fail
  go_loopw [3, 4] (fun s i wr => ∃ k : Nat, k ≤ n ∧ i = .int .i64 k ∧ Obb w wr s ((List.range k).map (fun i => (List.range n).map (F.one_ i))) ∧ Below w.heap.size w wr) (fun _ i _ => n - (intOf i).toNat)
  case atStart => exact ⟨0, by omega, rfl, Own.nil _ _ _ _, hB⟩
  case round =>
    clear hB
    obtain ⟨k, hk, rfl, oM, hB⟩ := hrel
    by_cases hlt : k < n
    · have HS := Lib.hid (range_snoc (fun i => (List.range n).map (F.one_ i)) k)
      have hlen : Hid (((List.range k).map (fun i => (List.range n).map (F.one_ i))).length + 1 ≤ 5000000000) := Lib.hid (by simp; omega)
      generalize ((List.range k).map (fun i => (List.range n).map (F.one_ i))) = M at *
      go_wp2_with fail
      go_loopw [5, 6] (fun s i ws => ∃ j : Nat, j ≤ n ∧ i = .int .i64 j ∧ Ob wr ws s ((List.range j).map (F.one_ k)) ∧ Below wr.heap.size wr ws) (fun _ i _ => n - (intOf i).toNat)
      case atStart => exact ⟨0, by omega, rfl, Own.nil _ _ _ _, Below.refl _ _⟩
      case round =>
        obtain ⟨j, hj, rfl, oR, hD⟩ := hrel
        by_cases hlt2 : j < n
        · have HR := Lib.hid (range_snoc (F.one_ k) j)
          have hlr : Hid (((List.range j).map (F.one_ k)).length + 1 ≤ 1000000) := Lib.hid (by simp; omega)
          by_cases e : j = k
          · subst e
            have h1 : Hid (F.one_ j j = 1) := Lib.hid (if_pos rfl)
            have t1 : ((j : Int) == (j : Int)) = true := beq_self_eq_true _
            generalize ((List.range j).map (F.one_ j)) = R at *
            have hlr := hlr.out
            go_wp2_with (at_builtin; refine app_one (enc := bV) rfl (.tmp 20) (.tmp 21) 40 5 (.int .u8 0) 1 rfl Try.underlying40 infoB rfl (by decide) _ _ (1 : F) rfl rfl _ (bV_eq ?hc) oR hD ?hl ?_; (case hc => (first | exact rfl | exact rfl)); (case hl => (first | (simp; omega) | omega)); intro v1 w1 ho hb hg)
            exact ⟨⟨j + 1, by omega, by go_num, by rw [HR.out, h1.out]; exact ho, hb⟩, by simp [intOf]; try omega⟩
          · have h1 : Hid (F.one_ k j = 0) := Lib.hid (if_neg (fun h => e h.symm))
            have t1 : ((j : Int) == (k : Int)) = false := beq_eq_false_iff_ne.2 (by omega)
            generalize ((List.range j).map (F.one_ k)) = R at *
            have hlr := hlr.out
            go_wp2_with (at_builtin; refine app_one (enc := bV) rfl (.tmp 23) (.tmp 24) 40 5 (.int .u8 0) 1 rfl Try.underlying40 infoB rfl (by decide) _ _ (0 : F) rfl rfl _ (bV_eq ?hc) oR hD ?hl ?_; (case hc => (first | exact rfl | exact rfl)); (case hl => (first | (simp; omega) | omega)); intro v1 w1 ho hb hg)
            exact ⟨⟨j + 1, by omega, by go_num, by rw [HR.out, h1.out]; exact ho, hb⟩, by simp [intOf]; try omega⟩
        · obtain rfl : j = n := by omega
          have hlen := hlen.out
          replace oR := oR.lower (w0 := w) hB
          replace oM := oM.below hD
          replace hB := bt_ hB hD
          generalize ((List.range j).map (F.one_ k)) = R at *
          obtain ⟨A2, c2, rfl⟩ := rk_form oR.rk
          go_wp2_with (at_builtin; refine app_row rfl (.tmp 26) (.tmp 28) 66 40 rfl Try.underlying66 infoR (by decide) _ _ _ _ rfl rfl oM oR hB ?hl ?_; (case hl => (first | (simp; omega) | omega)); intro v1 w1 ho hb hg)
          exact ⟨⟨k + 1, by omega, by go_num, by rw [HS.out]; exact ho, hb⟩, by simp [intOf]; try omega⟩
    · obtain rfl : k = n := by omega
      go_wp2
      go_ret
      exact ⟨_, rfl, by rw [HM.out]; exact oM, hB⟩
theorem rb_rt {w : World} {A : Option Addr} {c : Nat} {r : List F} (h : Rb w (.slice A r.length c) r) (m : Nat) (hm : m ≤ r.length) : Rb w (.slice (if c = m then A else A.map (fun x => x.add m)) (r.length - m) (c - m)) (r.drop m) := by
  have := Kd.C_drop (c := c) (rk_C h) hm (rk_cap h)
  rw [show kb.sz = 1 from rfl] at this
  simp only [Nat.mul_one] at this
  exact ⟨_, c - m, by rw [List.length_drop], by rw [List.length_drop]; have := rk_cap h; omega, this⟩
theorem rb_lf {w : World} {A : Option Addr} {c : Nat} {r : List F} (h : Rb w (.slice A r.length c) r) (m : Nat) (hm : m ≤ r.length) : Rb w (.slice A m c) (r.take m) :=
  ⟨A, c, by rw [List.length_take, Nat.min_eq_left hm], by rw [List.length_take]; have := rk_cap h; omega, Kd.C_take (rk_C h) hm⟩
theorem tail_range (f : List F → List F) (a : List (List F)) : (List.range (a.length - 1)).map (fun i => f (a.getD (i + 1) [])) = a.tail.map f := by
  cases a with
  | nil => rfl
  | cons r l =>
    show (List.range l.length).map _ = l.map f
    apply List.ext_getElem (by simp)
    intro i h1 h2
    have : i < l.length := by simpa using h1
    simp [List.getD_eq_getElem?_getD, this]
theorem erase_td (r : List F) (k : Nat) : r.take k ++ r.drop (k + 1) = r.eraseIdx k := (List.eraseIdx_eq_take_drop_succ r k).symm
set_option maxRecDepth 100000 in
set_option maxHeartbeats 1600000 in
theorem rWithout_c (v : Value) (a : List (List F)) (k : Nat) (w : World) (hv : Rbb w v a) (hn : a.length ≤ 1000) (h1 : a.length ≠ 0) (hk : ∀ r ∈ a, k < r.length ∧ r.length ≤ 1000) :
   Calls Try.prog 178 #[v, .int .i64 (k : Int)] w fun e w' => ∃ z, e = .returned z ∧ Obb w w' z (a.tail.map (·.eraseIdx k)) ∧ Below w.heap.size w w' := by
  obtain ⟨A, c, rfl⟩ := rk_form hv
  have hB := Below.refl w.heap.size w
  replace hk := Lib.hid hk
  have HT := Lib.hid (tail_range (·.eraseIdx k) a)
  go_enter Try.func178, Try.ntmps178
  go_wp2_with fail
  go_loopw [5, 6] (fun s i wr => ∃ q : Nat, 1 ≤ q ∧ q ≤ a.length ∧ i = .int .i64 (q : Int) ∧ Obb w wr s ((List.range (q - 1)).map (fun i => (a.getD (i + 1) []).eraseIdx k)) ∧ Below w.heap.size w wr) (fun _ i _ => a.length - (intOf i).toNat)
  case atStart => exact ⟨1, by omega, by omega, rfl, Own.nil _ _ _ _, hB⟩
  case round =>
    clear hB
    obtain ⟨q, hq, hj, rfl, oM, hB⟩ := hrel
    by_cases hlt : q < a.length
    · have HS := Lib.hid (range_snoc (fun i => (a.getD (i + 1) []).eraseIdx k) (q - 1))
      have hlen : ((List.range (q - 1)).map (fun i => (a.getD (i + 1) []).eraseIdx k)).length + 1 ≤ 5000000000 := by simp; omega
      obtain ⟨hkr, hr9⟩ := hk.out _ (getD_mem hlt)
      obtain ⟨ad, u1, rfl, d1, hu1⟩ := kbb_at (rk_C (hv.below hB)) q hlt
      obtain ⟨A1, c1, rfl⟩ := rk_form hu1
      have hcap := rk_cap hu1
      obtain ⟨k', hk'⟩ : ∃ k', k' = k + 1 := ⟨_, rfl⟩
      have hE := Lib.hid (erase_td (a.getD q []) k)
      rw [← hk'] at hE
      rw [show q - 1 + 1 = q by omega] at HS
      generalize a.getD q [] = r at *
      have hL := rb_lf hu1 k (by omega)
      have hR := rb_rt hu1 k' (by omega)
      have oL := lit_own (w0 := wr) (W := wr) [] #[] rfl 0 rfl (by decide) (Nat.le_refl _)
      have hB1 := below_alloc (Below.refl wr.heap.size wr) (.cells #[] 5)
      have hL1 := hL.below hB1
      have d2 := pw_cell_below hB1 d1
      generalize ((List.range (q - 1)).map (fun i => (a.getD (i + 1) []).eraseIdx k)) = M at *
      have s1 : (k : Int) ≤ (c1 : Int) := by omega
      have s2 : (k : Int) + 1 ≤ (r.length : Int) := by omega
      have s0 : (0 : Int) ≤ (k : Int) + 1 := by omega
      have s3 : ((k : Int) + 1).toNat = k' := by omega
      obtain ⟨ad1, rfl, _⟩ := kb_at (rk_C hu1) 0 (by omega)
      have hlL : (([] : List F).length + (r.take k).length) * 1 ≤ 140737488355328 := by simp; omega
      have hlR : ((r.take k).length + (r.drop k').length) * 1 ≤ 140737488355328 := by simp; omega
      by_cases e9 : c1 = k'
      · rw [if_pos e9, show r.length - k' = 0 by omega, show c1 - k' = 0 by omega] at hR
        obtain rfl : c1 = r.length := by omega
        obtain rfl : k' = r.length := by omega
        have hk9 := Lib.hid hk'
        clear hk' e9
        go_wp2_with (first
          | (at_builtin; refine app_many (w0 := wr) (enc := bV) rfl (.tmp 14) (.tmp 20) 40 5 (.int .u8 0) 1 rfl Try.underlying40 infoB rfl (by decide) _ [] (r.take k) _ rfl rfl oL hL1 hB1 hlL ?_; intro v1 w1 ho hb hg; clear hg; rw [List.nil_append] at ho; have hR1 := hR.below hb; have d3 := pw_cell_below hb d1)
          | (at_builtin; refine app_many (w0 := wr) (enc := bV) rfl (.tmp 23) (.tmp 30) 40 5 (.int .u8 0) 1 rfl Try.underlying40 infoB rfl (by decide) _ (r.take k) (r.drop r.length) _ rfl rfl ho hR1 hb hlR ?_; intro v2 w2 ho2 hb2 hg; clear hg; rw [hE.out] at ho2; replace ho2 : Ob wr w2 v2 _ := ho2; replace ho2 := ho2.lower (w0 := w) hB; obtain ⟨A2, c2, rfl⟩ := rk_form ho2.rk; have oM2 := oM.below hb2; have hB2 := bt_ hB hb2)
          | (at_builtin; refine app_row rfl (.tmp 22) (.tmp 32) 66 40 rfl Try.underlying66 infoR (by decide) _ _ _ _ rfl rfl oM2 ho2 hB2 hlen ?_; intro v3 w3 ho3 hb3 hg)
          | fail)
        exact ⟨⟨q + 1, by omega, by omega, by go_num, by rw [show q + 1 - 1 = q by omega, HS.out]; exact ho3, hb3⟩, by simp [intOf]; try omega⟩
      · rw [if_neg e9] at hR
        have hk9 := Lib.hid hk'
        clear hk'
        go_wp2_with (first
          | (at_builtin; refine app_many (w0 := wr) (enc := bV) rfl (.tmp 14) (.tmp 20) 40 5 (.int .u8 0) 1 rfl Try.underlying40 infoB rfl (by decide) _ [] (r.take k) _ rfl rfl oL hL1 hB1 hlL ?_; intro v1 w1 ho hb hg; clear hg; rw [List.nil_append] at ho; have hR1 := hR.below hb; have d3 := pw_cell_below hb d1)
          | (at_builtin; refine app_many (w0 := wr) (enc := bV) rfl (.tmp 23) (.tmp 30) 40 5 (.int .u8 0) 1 rfl Try.underlying40 infoB rfl (by decide) _ (r.take k) (r.drop k') _ rfl rfl ho hR1 hb hlR ?_; intro v2 w2 ho2 hb2 hg; clear hg; rw [hE.out] at ho2; replace ho2 : Ob wr w2 v2 _ := ho2; replace ho2 := ho2.lower (w0 := w) hB; obtain ⟨A2, c2, rfl⟩ := rk_form ho2.rk; have oM2 := oM.below hb2; have hB2 := bt_ hB hb2)
          | (at_builtin; refine app_row rfl (.tmp 22) (.tmp 32) 66 40 rfl Try.underlying66 infoR (by decide) _ _ _ _ rfl rfl oM2 ho2 hB2 hlen ?_; intro v3 w3 ho3 hb3 hg)
          | fail)
        exact ⟨⟨q + 1, by omega, by omega, by go_num, by rw [show q + 1 - 1 = q by omega, HS.out]; exact ho3, hb3⟩, by simp [intOf]; try omega⟩
    · obtain rfl : q = a.length := by omega
      go_wp2
      go_ret
      exact ⟨_, rfl, by rw [← HT.out]; exact oM, hB⟩
end Go.Proofs.Ytijeabhfddaoaaa
