/- The walk of the law SettleMeets. -/
import Derived.Test.YtacbenjfiabegaaUg
import Derived.Laws.Small
namespace Go.Proofs.Ytacbenjfiabegaa
set_option linter.unusedVariables false
set_option linter.unusedSimpArgs false
open Go.RowKit Go.Proofs.YtacbenjfiabegaaW.PrintWords Go.Proofs.Sh

/-- One element behind the other is changed. -/
def stepL (f : Nat → Ms → Ms) (l : List Ms) : Nat → List Ms
  | 0 => l
  | k + 1 => (stepL f l k).set k (f k ((stepL f l k).getD k zM))
theorem stepL_len (f : Nat → Ms → Ms) (l : List Ms) : ∀ k, (stepL f l k).length = l.length
  | 0 => rfl
  | k + 1 => by
    simp only [stepL, List.length_set]
    exact stepL_len f l k
theorem getD_put (l : List Ms) (k : Nat) (x : Ms) (h : k < l.length) : (l.set k x).getD k zM = x := by
  rw [List.getD_eq_getElem?_getD, List.getElem?_set_self h]; rfl
theorem stepL_get (f : Nat → Ms → Ms) (l : List Ms) (j : Nat) (hj : j < l.length) : ∀ k, (stepL f l k).getD j zM = if j < k then f j (l.getD j zM) else l.getD j zM
  | 0 => by rw [if_neg (by omega)]; rfl
  | k + 1 => by
    simp only [stepL]
    by_cases e : j = k
    · subst e
      rw [getD_put _ _ _ (by rw [stepL_len]; exact hj), stepL_get f l j hj j, if_neg (by omega), if_pos (by omega)]
    · rw [List.getD_eq_getElem?_getD, List.getElem?_set_ne (fun h => e h.symm), ← List.getD_eq_getElem?_getD, stepL_get f l j hj k]
      by_cases h : j < k
      · rw [if_pos h, if_pos (by omega)]
      · rw [if_neg h, if_neg (by omega)]
def c1 (i : Nat) (x : Ms) : Ms := { x with k := 14, f := (i : Int) + 1, h := 2 }
def c2 (mo : Int) (_ : Nat) (x : Ms) : Ms := if x.m = mo then { x with a := 3, e := 4, z := 5 } else x
def mostL (l : List Ms) : Int := l.foldl (fun s x => max s x.m) 0
theorem mostL_snoc (l : List Ms) (k : Nat) (h : k < l.length) : mostL (l.take (k + 1)) = max (mostL (l.take k)) (l.getD k zM).m := by
  unfold mostL
  rw [take_snoc' l k zM h, List.foldl_append]
  rfl
def isM (mo : Int) (x : Ms) : Bool := x.m == mo
def saidL (ans : List Bool) (l : List Ms) : Nat → List Ms
  | 0 => []
  | k + 1 => saidL ans l k ++ if ans.getD k false then [l.getD k zM] else []
theorem saidL_len (ans : List Bool) (l : List Ms) : ∀ k, (saidL ans l k).length ≤ k
  | 0 => Nat.le_refl _
  | k + 1 => by
    have := saidL_len ans l k
    simp only [saidL, List.length_append]
    cases ans.getD k false <;> simp <;> omega
theorem saidL_mem (ans : List Bool) (l : List Ms) : ∀ k, k ≤ l.length → ∀ x ∈ saidL ans l k, ∃ j, j < k ∧ ans.getD j false = true ∧ x = l.getD j zM
  | 0, _, x, hx => by cases hx
  | k + 1, hk, x, hx => by
    simp only [saidL, List.mem_append] at hx
    rcases hx with hx | hx
    · obtain ⟨j, h1, h2⟩ := saidL_mem ans l k (by omega) x hx
      exact ⟨j, by omega, h2⟩
    · cases hq : ans.getD k false with
      | false => rw [hq] at hx; cases hx
      | true =>
        rw [hq] at hx
        exact ⟨k, by omega, hq, by simpa using hx⟩
/-- A field of a message of the row is stored. -/
theorem Om.put {w0 w : World} {g n cap : Nat} {l : List Ms} (h : Om w0 w (.slice (some ⟨g, 0, none⟩) n cap) l) (j f : Nat) (v : Value) (x x' : Ms) (hf : f < 13) (hj : j < l.length) (hx : l.getD j zM = x) (hxx : (mC x').toList = (mC x).toList.set f v) (h1 : x'.who = x.who) (h2 : x'.nms = x.nms) (h3 : x'.dat = x.dat) :
    Om w0 (w.setCell ⟨g, j * 13 + f, none⟩ v) (.slice (some ⟨g, 0, none⟩) n cap) (l.set j x') ∧ w.grownBy (w.setCell ⟨g, j * 13 + f, none⟩ v) (some g) ∧ (l.set j x').getD j zM = x' ∧ j < (l.set j x').length := by
  subst hx
  have hok := (Om.at h j hj).1
  obtain ⟨q1, q2⟩ := Om.set h j f v x' hf hj hxx (hok.like h1 h2 h3)
  exact ⟨q1, q2, getD_put _ _ _ hj, by rw [List.length_set]; exact hj⟩
theorem set_same (l : List Ms) (k : Nat) (x : Ms) (h : l.getD k zM = x) : l.set k x = l := by
  refine List.ext_getElem? fun i => ?_
  by_cases e : k = i
  · subst e
    by_cases hk : k < l.length
    · rw [List.getElem?_set_self hk, ← h, List.getD_eq_getElem?_getD, List.getElem?_eq_getElem hk]; rfl
    · rw [List.getElem?_eq_none (by rw [List.length_set]; omega), List.getElem?_eq_none (by omega)]
  · rw [List.getElem?_set_ne e]
theorem mem_get {l : List Ms} {x : Ms} (h : x ∈ l) : ∃ j, j < l.length ∧ x = l.getD j zM := by
  obtain ⟨j, hj⟩ := List.getElem?_of_mem h
  exact ⟨j, (List.getElem?_eq_some_iff.1 hj).1, by rw [List.getD_eq_getElem?_getD, hj]; rfl⟩
theorem get_mem {l : List Ms} {j : Nat} (h : j < l.length) : l.getD j zM ∈ l := by
  rw [List.getD_eq_getElem?_getD, List.getElem?_eq_getElem h]; exact List.getElem_mem _
theorem stepL_all {P : Ms → Prop} (f : Nat → Ms → Ms) (l : List Ms) (k : Nat) (hf : ∀ i x, P x → P (f i x)) (h : ∀ x ∈ l, P x) : ∀ x ∈ stepL f l k, P x := fun x hx => by
  obtain ⟨j, hj, rfl⟩ := mem_get hx
  rw [stepL_len] at hj
  rw [stepL_get f l j hj k]
  split
  · exact hf _ _ (h _ (get_mem hj))
  · exact h _ (get_mem hj)
theorem c1_rd {w : World} (i : Nat) (x : Ms) (h : Rd w x) : Rd w (c1 i x) := h.like rfl rfl rfl rfl
theorem c2_rd {w : World} (mo : Int) (i : Nat) (x : Ms) (h : Rd w x) : Rd w (c2 mo i x) := by
  unfold c2
  split
  · exact h.like rfl rfl rfl rfl
  · exact h
theorem kl36_at {w : World} {A : Option Addr} {n : Nat} {l : List Bool} (h : Kd.bool.C w A n l) (j : Nat) (hj : j < n) : ∃ ad, A = some ad ∧ w.cell? (ad.add j) = some (.bool (l.getD j false)) := by
  obtain ⟨ad, e, hc⟩ := Kd.at_bool h (j : Int) (by omega) (by omega)
  rw [Int.toNat_natCast] at hc
  exact ⟨ad, e, hc⟩
theorem below_put {w0 w w' : World} {g : Nat} (h : Below w0.heap.size w0 w) (hg : w.grownBy w' (some g)) (hb : w0.heap.size ≤ g) : Below w0.heap.size w0 w' := h.grown hg h.size (fun k hk => by injection hk with hk; omega)
theorem vd_cells {w : World} {b : Nat} {en cl : Bool} {v : Vl} {mk : Int} {hv : Value} {t : TypeId} (h : Blk w b (vdC en cl v mk hv) t) :
    w.cell? ⟨b, 0, none⟩ = some (.bool en) ∧ w.cell? ⟨b, 2, none⟩ = some (.bool v.p) ∧ w.cell? ⟨b, 3, none⟩ = some (.int .i64 v.a) ∧ w.cell? ⟨b, 4, none⟩ = some (.int .i64 v.e) ∧ w.cell? ⟨b, 5, none⟩ = some (.int .i64 v.z) ∧ w.cell? ⟨b, 6, none⟩ = some (.int .i64 mk) :=
  ⟨h.cell 0 _ rfl, h.cell 2 _ rfl, h.cell 3 _ rfl, h.cell 4 _ rfl, h.cell 5 _ rfl, h.cell 6 _ rfl⟩
theorem val_cells {w : World} {b : Nat} {v : Vl} {t : TypeId} (h : Blk w b (valC v) t) :
    w.cell? ⟨b, 0, none⟩ = some (.bool v.p) ∧ w.cell? ⟨b, 1, none⟩ = some (.int .i64 v.a) ∧ w.cell? ⟨b, 2, none⟩ = some (.int .i64 v.e) ∧ w.cell? ⟨b, 3, none⟩ = some (.int .i64 v.z) :=
  ⟨h.cell 0 _ rfl, h.cell 1 _ rfl, h.cell 2 _ rfl, h.cell 3 _ rfl⟩
set_option maxRecDepth 100000 in
set_option maxHeartbeats 12800000 in
theorem meets_c (p : Pl) (h : p.Ok) (v : Value) (l : List Ms) (u : Value) (ans : List Bool) (w : World) (hv : Ml w v l) (hu : Rl w u ans) (hN : p.N ≤ 20) (hl : (l.length : Int) = p.N)
   (hlaw : mostL l ≥ 1 → (p.W ≤ (cntP (isM (mostL l)) (stepL c1 l l.length) : Nat)) → p.N - p.W + 1 ≤ (cntP soundB (saidL ans (stepL (c2 (mostL l)) (stepL c1 l l.length) l.length) l.length) : Nat) → settleM (saidL ans (stepL (c2 (mostL l)) (stepL c1 l l.length) l.length) l.length) = (mostL l, ⟨true, 3, 4, 5⟩)) :
   Calls Try.prog 5 #[planV p, v, u] w fun e w' => e = .returned (.bool true) ∧ Below w.heap.size w w' := by
  obtain ⟨A, c, rfl⟩ := rk_form hv.row
  obtain ⟨Au, cu, rfl⟩ := rk_form hu
  have hOk := Lib.hid h
  have hl20 : l.length ≤ 20 := by omega
  have hwn : 2 ≤ p.W ∧ p.W ≤ p.N := by obtain ⟨a1, a2, a3, a4, a5, a6, a7, a8, a9⟩ := h; omega
  have halive := fun W => Lib.hid (alive36_c W)
  have HP := Blk.new w (planC p) 48
  have hB := below_alloc (Below.refl w.heap.size w) (.cells (planC p) 48)
  have t1 : decide (20 < p.N) = false := decide_eq_false (by omega)
  have t2 : ((l.length : Int) != p.N) = false := by rw [hl]; simp
  obtain ⟨c0, c1', c2', c3, c4, c5⟩ := cells6 HP
  have hvv := Lib.hid hv
  have huu := Lib.hid hu
  clear hv hu
  go_enter Try.func5, Try.ntmps5
  go_wp2_with fail
  generalize w.alloc (.cells (planC p) 48) = wa at *
  refine (rRight_yes p h _).mono ?_
  rintro e wb ⟨rfl, h1⟩
  replace HP := HP.below h1
  replace hB := bt_ hB h1
  clear h1 c0 c1' c2' c3 c4 c5
  obtain ⟨c0, c1', c2', c3, c4, c5⟩ := cells6 HP
  have hvr := hvv.out.below hB
  go_wp2_with fail
  refine (far36_c _ l wb hvr).mono ?_
  rintro e wc ⟨⟨bf, rfl⟩, h1⟩
  replace HP := HP.below h1
  replace hB := bt_ hB h1
  clear h1 c0 c1' c2' c3 c4 c5 hvr
  cases bf with
  | true =>
    go_wp2_with fail
    refine (halive wc).out.mono ?_
    rintro e wd ⟨rfl, h1⟩
    replace hB := bt_ hB h1
    clear h1 HP
    go_wp2
    go_ret
    exact ⟨rfl, hB⟩
  | false =>
    have hvr := hvv.out.below hB
    have hlit := lit_om (w0 := wc) (W := wc) (Nat.le_refl _)
    have hbl := below_alloc (Below.refl wc.heap.size wc) (.cells #[] 56)
    have hvl := hvr.below hbl
    go_wp2_with (first
      | (at_builtin; refine app_ms rfl (.tmp 36) (.tmp 37) rfl _ [] l _ rfl rfl hlit hvl.row hbl ?hl ?_; (case hl => (simp; omega)); intro v1 w1 ho hb)
      | ((with_reducible refine gate_dst (N := 9) rfl ?_); refine halt ?_)
      | fail)
    refine ⟨?_⟩
    rw [List.nil_append] at ho
    obtain ⟨g, cap, rfl, hgb, hgl⟩ := Om.form ho (by omega)
    have hgw : w.heap.size ≤ g := Nat.le_trans hB.size hgb
    replace HP := HP.below hb
    have hne9 : w.heap.size < w1.heap.size := blk_lt HP
    replace ho := Own.lower ho hB
    replace hB := bt_ hB hb
    have hV := Blk.new w1 #[.bool false, .int .i64 0, .int .i64 0, .int .i64 0] 33
    have hbv := below_alloc (Below.refl w1.heap.size w1) (.cells #[.bool false, .int .i64 0, .int .i64 0, .int .i64 0] 33)
    replace HP := HP.below hbv
    replace ho := Own.below ho hbv
    replace hB := bt_ hB hbv
    clear hlit hbl hvl hvr hb hbv hgb hgl
    go_upto_region 6 with fail
    generalize w1.alloc (.cells #[.bool false, .int .i64 0, .int .i64 0, .int .i64 0] 33) = w2 at *
    generalize w1.heap.size = b9 at *
    replace hlaw := Lib.hid hlaw
    replace hl := Lib.hid hl
    go_wp2_with fail
    go_loopw [7, 41] (fun mo i wr => ∃ k : Nat, k ≤ l.length ∧ i = .int .i64 k ∧ mo = .int .i64 (mostL (l.take k)) ∧ Om w wr (.slice (some ⟨g, 0, none⟩) l.length cap) (stepL c1 l k) ∧ Blk wr b9 (valC noV) 33 ∧ Blk wr w.heap.size (planC p) 48 ∧ Below w.heap.size w wr) (fun _ i _ => l.length - (intOf i).toNat)
    case atStart => exact ⟨0, by omega, rfl, rfl, ho, hV, HP, hB⟩
    case round =>
      clear ho hV HP hB
      obtain ⟨k, hk, rfl, rfl, hO, hV, HP, hB⟩ := hrel
      by_cases hlt : k < l.length
      · have hsn := mostL_snoc l k hlt
        have hL := stepL_len c1 l k
        have hx : (stepL c1 l k).getD k zM = l.getD k zM := by rw [stepL_get c1 l k hlt k, if_neg (by omega)]
        have hsS : stepL c1 l (k + 1) = (stepL c1 l k).set k (c1 k (l.getD k zM)) := by rw [← hx]; rfl
        replace hsS := Lib.hid hsS
        generalize l.getD k zM = x at *
        generalize stepL c1 l k = S at *
        generalize hmoE : mostL (l.take k) = mo at *
        replace hsn := Lib.hid hsn
        obtain ⟨q1, g1, x1, l1⟩ := Om.put hO k 0 (.int .i64 14) x { x with k := 14 } (by omega) (by omega) hx rfl rfl rfl rfl
        obtain ⟨q2, g2, x2, l2⟩ := Om.put q1 k 1 (.int .i64 ((k : Int) + 1)) { x with k := 14 } { x with k := 14, f := (k : Int) + 1 } (by omega) l1 x1 rfl rfl rfl rfl
        obtain ⟨q3, g3, x3, l3⟩ := Om.put q2 k 9 (.int .i64 2) { x with k := 14, f := (k : Int) + 1 } (c1 k x) (by omega) l2 x2 rfl rfl rfl rfl
        obtain ⟨_, a0, f0⟩ := Om.at hO k (by omega)
        obtain ⟨_, a1, f1⟩ := Om.at q1 k l1
        obtain ⟨_, a2, f2⟩ := Om.at q2 k l2
        obtain ⟨_, a3, f3⟩ := Om.at q3 k l3
        have d0 := a0 0 (.int .i64 x.k) (by rw [hx]; rfl)
        have d1 := a1 1 (.int .i64 x.f) (by rw [x1]; rfl)
        have d2 := a2 9 (.int .i64 x.h) (by rw [x2]; rfl)
        have d3 := a3 7 (.int .i64 x.m) (by rw [x3]; rfl)
        have gg := World.grownBy.trans (World.grownBy.trans g1 g2) g3
        have HP3 : Blk _ w.heap.size (planC p) 48 := blk_grown HP gg (own_ne (om_own hO).1 HP (by decide))
        have hV3 : Blk _ b9 (valC noV) 33 := blk_grown hV gg (own_ne (om_own hO).1 hV (by decide))
        have hB3 := Lib.hid (below_put hB gg hgw)
        replace HP3 := Lib.hid HP3
        replace hV3 := Lib.hid hV3
        rw [List.set_set, List.set_set, ← hsS.out] at q3
        replace q3 := Lib.hid q3
        clear a0 a1 a2 a3 q1 q2 g1 g2 g3 gg x1 x2 x3 l1 l2 l3 hO hV HP hB hx hL
        simp only [Nat.add_zero] at d0 d1 d2 d3 f1 f2 f3
        go_wp2
        refine ⟨⟨k + 1, by omega, by go_num, ?_, q3.out, hV3.out, HP3.out, hB3.out⟩, by simp [intOf]; omega⟩
        rw [hsn.out]
        congr 1
        split <;> omega
      · obtain rfl : k = l.length := by omega
        have hL1 := stepL_len c1 l l.length
        have hrd1 := Lib.hid (stepL_all c1 l l.length (fun i x hx => c1_rd i x hx) hvv.out.rd)
        rw [List.take_length]
        generalize stepL c1 l l.length = L1 at *
        generalize mostL l = mo at *
        clear hlt
        go_wp2_with fail
        go_loopw [8, 68] (fun hs i wr => ∃ k : Nat, k ≤ l.length ∧ i = .int .i64 k ∧ hs = .int .i64 (cntP (isM mo) (L1.take k) : Nat) ∧ Om w wr (.slice (some ⟨g, 0, none⟩) l.length cap) (stepL (c2 mo) L1 k) ∧ Blk wr b9 (valC (if 0 < cntP (isM mo) (L1.take k) then ⟨true, 3, 4, 5⟩ else noV)) 33 ∧ Blk wr w.heap.size (planC p) 48 ∧ Below w.heap.size w wr) (fun _ i _ => l.length - (intOf i).toNat)
        case atStart => exact ⟨0, by omega, rfl, rfl, hO, hV, HP, hB⟩
        case round =>
          clear hO hV HP hB hk
          obtain ⟨k, hk, rfl, rfl, hO, hV, HP, hB⟩ := hrel
          have hcle := Nat.le_trans (cntP_le (isM mo) (L1.take k)) (by rw [List.length_take]; omega : (L1.take k).length ≤ k)
          by_cases hlt : k < l.length
          · have hsn := cntP_snoc (isM mo) L1 k (by omega)
            have hL := stepL_len (c2 mo) L1 k
            have hx : (stepL (c2 mo) L1 k).getD k zM = L1.getD k zM := by rw [stepL_get (c2 mo) L1 k (by omega) k, if_neg (by omega)]
            have hsS : stepL (c2 mo) L1 (k + 1) = (stepL (c2 mo) L1 k).set k (c2 mo k (L1.getD k zM)) := by rw [← hx]; rfl
            generalize L1.getD k zM = x at *
            generalize stepL (c2 mo) L1 k = S at *
            generalize cntP (isM mo) (L1.take k) = h0 at *
            obtain ⟨_, a0, f0⟩ := Om.at hO k (by omega)
            have d0 := a0 7 (.int .i64 x.m) (by rw [hx]; rfl)
            by_cases hm : x.m = mo
            · have tm : (x.m == mo) = true := by rw [hm]; simp
              have hsn2 := Lib.hid (show cntP (isM mo) (L1.take (k + 1)) = h0 + 1 by rw [hsn]; unfold isM; rw [tm]; rfl)
              rw [show c2 mo k x = { x with a := 3, e := 4, z := 5 } by unfold c2; rw [if_pos hm]] at hsS
              obtain ⟨q1, g1, x1, l1⟩ := Om.put hO k 5 (.int .i64 3) x { x with a := 3 } (by omega) (by omega) hx rfl rfl rfl rfl
              obtain ⟨q2, g2, x2, l2⟩ := Om.put q1 k 6 (.int .i64 4) { x with a := 3 } { x with a := 3, e := 4 } (by omega) l1 x1 rfl rfl rfl rfl
              obtain ⟨q3, g3, x3, l3⟩ := Om.put q2 k 8 (.int .i64 5) { x with a := 3, e := 4 } { x with a := 3, e := 4, z := 5 } (by omega) l2 x2 rfl rfl rfl rfl
              obtain ⟨_, a1, f1⟩ := Om.at q1 k l1
              obtain ⟨_, a2, f2⟩ := Om.at q2 k l2
              have d1 := a0 5 (.int .i64 x.a) (by rw [hx]; rfl)
              have d2 := a1 6 (.int .i64 x.e) (by rw [x1]; rfl)
              have d3 := a2 8 (.int .i64 x.z) (by rw [x2]; rfl)
              generalize hvo : (if 0 < h0 then (⟨true, 3, 4, 5⟩ : Vl) else noV) = vo at *
              have gg := World.grownBy.trans (World.grownBy.trans g1 g2) g3
              have HP3 : Blk _ w.heap.size (planC p) 48 := blk_grown HP gg (own_ne (om_own hO).1 HP (by decide))
              have hV3 : Blk _ b9 (valC vo) 33 := blk_grown hV gg (own_ne (om_own hO).1 hV (by decide))
              have hB3 := below_put hB gg hgw
              rw [List.set_set, List.set_set, ← hsS] at q3
              have hV4 := Lib.hid (setRow_heap _ b9 _ (valC ⟨true, 3, 4, 5⟩) _ _ hV3)
              have HP4 := Lib.hid (blk_grown HP3 (grown_rowM _ b9 (valC ⟨true, 3, 4, 5⟩)) (by intro e; injection e with e; omega))
              have q4 := Lib.hid (own_om (own_other (om_own q3).1 (grown_rowM _ b9 (valC ⟨true, 3, 4, 5⟩)) (.inr (own_ne (om_own q3).1 hV3 (by decide)).symm)) (om_own q3).2)
              have hB4 := Lib.hid (below_setRow hB3 (show w.heap.size ≤ b9 by omega) (valC ⟨true, 3, 4, 5⟩))
              replace hV3 := Lib.hid hV3
              clear a0 a1 a2 q1 q2 q3 g1 g2 g3 gg x1 x2 x3 l1 l2 l3 hO hV HP hB hx hL HP3 hB3 hsn hsS hvo
              go_wp2_with (first
                | (refine wpList_store_row rfl 33 (.tmp 9) (.tmp 92) rfl b9 (valC ⟨true, 3, 4, 5⟩) rfl rfl 33 (valC vo) hV3.out (by kernel_rfl) rfl (by simp [Value.oneCell']) ?_)
                | fail)
              refine ⟨⟨k + 1, by omega, by go_num, by rw [hsn2.out]; go_num, q4.out, ?_, HP4.out, hB4.out⟩, by simp [intOf]; omega⟩
              rw [hsn2.out, if_pos (by omega)]
              exact hV4.out
            · have tm : (x.m == mo) = false := beq_eq_false_iff_ne.2 hm
              have hsn2 := Lib.hid (show cntP (isM mo) (L1.take (k + 1)) = h0 by rw [hsn]; unfold isM; rw [tm]; rfl)
              rw [show c2 mo k x = x by unfold c2; rw [if_neg hm], set_same S k x hx] at hsS
              rw [← hsS] at hO
              replace hO := Lib.hid hO
              clear a0 hx hL hsn hsS hm
              go_wp2
              exact ⟨⟨k + 1, by omega, by go_num, by rw [hsn2.out], hO.out, by rw [hsn2.out]; exact hV, HP, hB⟩, by simp [intOf]; omega⟩
          · obtain rfl : k = l.length := by omega
            have hL2 := stepL_len (c2 mo) L1 l.length
            have hrd2 := Lib.hid (stepL_all (c2 mo) L1 l.length (fun i x hx => c2_rd mo i x hx) hrd1.out)
            rw [List.take_of_length_le (by omega)] at hV hcle ⊢
            generalize stepL (c2 mo) L1 l.length = L2 at *
            generalize hho : cntP (isM mo) L1 = ho at *
            clear hlt hrd1
            obtain ⟨c0, c1', c2', c3, c4, c5⟩ := cells6 HP
            by_cases hA : (ho : Int) < p.W
            · have tA : decide ((ho : Int) < p.W) = true := decide_eq_true hA
              clear hO hV HP hrd2
              go_wp2_with fail
              refine (halive _).out.mono ?_
              rintro e wz ⟨rfl, h1⟩
              replace hB := bt_ hB h1
              go_wp2
              go_ret
              exact ⟨rfl, hB⟩
            · have tA : decide ((ho : Int) < p.W) = false := decide_eq_false hA
              by_cases hA2 : mo < 1
              · have tA2 : decide (mo < 1) = true := decide_eq_true hA2
                clear hO hV HP hrd2
                go_wp2_with fail
                refine (halive _).out.mono ?_
                rintro e wz ⟨rfl, h1⟩
                replace hB := bt_ hB h1
                go_wp2
                go_ret
                exact ⟨rfl, hB⟩
              · have tA2 : decide (mo < 1) = false := decide_eq_false hA2
                rw [if_pos (by omega)] at hV
                have hlaw2 := Lib.hid (hlaw.out (by omega) (by omega))
                have hvm : Ml wr (.slice (some ⟨g, 0, none⟩) L2.length cap) L2 := ⟨by have := Own.rk hO; rw [show L2.length = l.length by omega]; exact this, fun x hx => (hrd2.out x hx).below hB⟩
                have hL2' : L2.length = l.length := by omega
                rw [hL2'] at hvm
                have huw := huu.out.below hB
                have hBw := hB
                clear hO hrd2 hlaw hB
                obtain ⟨w3, hw3⟩ : ∃ w3, w3 = wr := ⟨_, rfl⟩
                subst hw3
                go_wp2_with fail
                go_loopw [12, 105] (fun sv i wr => ∃ k : Nat, k ≤ l.length ∧ i = .int .i64 k ∧ Om w3 wr sv (saidL ans L2 k) ∧ Below w3.heap.size w3 wr) (fun _ i _ => l.length - (intOf i).toNat)
                case atStart => exact ⟨0, by omega, rfl, Own.nil _ _ _ _, Below.refl _ _⟩
                case round =>
                  obtain ⟨k, hk, rfl, hO, hB⟩ := hrel
                  have hsl := saidL_len ans L2 k
                  by_cases hlt : k < l.length
                  · have hsn : saidL ans L2 (k + 1) = saidL ans L2 k ++ if ans.getD k false then [L2.getD k zM] else [] := rfl
                    obtain ⟨ad, e, hokx, hc⟩ := msg_at (hvm.below hB).row k (by omega)
                    injection e with e
                    subst e
                    have hrd := (hvm.rd (L2.getD k zM) (get_mem (by omega))).below hB
                    generalize L2.getD k zM = x at *
                    have hz := Blk.new wr zeroC 56
                    have hbx := boxM_blk wr x
                    have hbb := boxM_below wr x
                    replace hrd := hrd.below hbb
                    have hB2 := bt_ hB hbb
                    rw [Go.Proofs.YtacbenjfiabegaaW.PrintWords.add_plain] at hc
                    have hc2 := Lib.hid hc
                    clear hc
                    replace hO := Own.below hO hbb
                    replace huw := (huw.below hB).below hbb
                    generalize saidL ans L2 k = S at *
                    obtain ⟨As, cs, rfl⟩ := rk_form (Own.rk hO)
                    go_upto_region 26 with (first
                      | ((with_reducible refine gate_dst (N := 109) rfl ?_); refine wpList_load_msg rfl (.tmp 108) rfl ⟨g, k * 13, none⟩ rfl x hc2.out ?_)
                      | (refine wpList_store_row rfl 56 (.tmp 14) (.tmp 109) rfl wr.heap.size (mC x) rfl rfl 56 zeroC hz (by kernel_rfl) rfl hokx.all ?_; change wpList _ _ _ _ _ (boxM wr x))
                      | fail)
                    generalize boxM wr x = W2 at *
                    generalize wr.heap.size = bx at *
                    clear hz hbb hB hc2
                    by_cases hka : k < ans.length
                    · have tka : decide ((k : Int) < (ans.length : Int)) = true := decide_eq_true (by omega)
                      obtain ⟨ad, e, d0⟩ := kl36_at (rk_C huw) k hka
                      subst e
                      generalize ans.getD k false = bk at *
                      cases bk with
                      | true =>
                        have hs2 := Lib.hid (show saidL ans L2 (k + 1) = S ++ [x] by rw [hsn]; rfl)
                        have hml := (lit_ms W2 x hrd hokx).row
                        have hba := below_alloc (Below.refl W2.heap.size W2) (.cells (mC x) 56)
                        have hO3 := Own.below hO hba
                        have hB3 := bt_ hB2 hba
                        clear hsn hrd hokx hO huw hB2 hba
                        go_wp2_with (first
                          | ((with_reducible refine gate_dst (N := 121) rfl ?_); refine wpList_load_row rfl 56 (.tmp 14) rfl bx rfl 56 (mC x) (0, 0) _ hbx Try.underlying56 rfl (by kernel_rfl) ?_)
                          | ((with_reducible refine gate_dst (N := 122) rfl ?_); refine wpList_lit_msg rfl (.tmp 121) rfl x rfl ?_)
                          | (at_builtin; refine app_ms rfl (.tmp 120) (.tmp 122) rfl _ S [x] _ rfl rfl hO3 hml hB3 ?hl ?_; (case hl => (simp; omega)); intro v1 w1 ho9 hb9)
                          | fail)
                        exact ⟨⟨k + 1, by omega, by go_num, by rw [hs2.out]; exact ho9, hb9⟩, by simp [intOf]; omega⟩
                      | false =>
                        have hs2 := Lib.hid (show saidL ans L2 (k + 1) = S by rw [hsn]; simp)
                        clear hsn hrd hokx huw hbx
                        go_wp2
                        exact ⟨⟨k + 1, by omega, by go_num, by rw [hs2.out]; exact hO, hB2⟩, by simp [intOf]; omega⟩
                    · have tka : decide ((k : Int) < (ans.length : Int)) = false := decide_eq_false (by omega)
                      have hs2 := Lib.hid (show saidL ans L2 (k + 1) = S by rw [hsn, List.getD_eq_getElem?_getD, List.getElem?_eq_none (by omega)]; simp)
                      clear hsn hrd hokx huw hbx
                      go_wp2
                      exact ⟨⟨k + 1, by omega, by go_num, by rw [hs2.out]; exact hO, hB2⟩, by simp [intOf]; omega⟩
                  · obtain rfl : k = l.length := by omega
                    obtain ⟨As, cs, rfl⟩ := rk_form (Own.rk hO)
                    have hms : Ml wr (.slice As (saidL ans L2 l.length).length cs) (saidL ans L2 l.length) := ⟨Own.rk hO, fun x hx => by
                      obtain ⟨j, hj, _, rfl⟩ := saidL_mem ans L2 l.length (by omega) x hx
                      exact (hvm.rd _ (get_mem (by omega))).below hB⟩
                    generalize saidL ans L2 l.length = S at *
                    replace HP := HP.below hB
                    replace hV := hV.below hB
                    replace hB := bt_ hBw hB
                    clear hO hvm huw hBw hlt hL2 hL2' c0 c1' c2' c3 c4 c5
                    obtain ⟨c0, c1', c2', c3, c4, c5⟩ := cells6 HP
                    go_wp2_with fail
                    refine (Settle_c p hOk.out _ S wr hms (by omega)).mono ?_
                    rintro e w6 ⟨z, rfl, hz, h6⟩
                    have hzs : ∃ A n c, z = .slice A n c := by obtain ⟨A, c, e⟩ := rk_form hz; exact ⟨_, _, _, e⟩
                    obtain ⟨Az, nz, cz, rfl⟩ := hzs
                    generalize ((cntP leftB S == 0) && (((settleM S).1 == 0) || decide (p.W ≤ ((cntP (msB (settleM S).1) S : Nat) : Int)))) = cl at *
                    have hlaw3 := hlaw2.out
                    generalize hen : decide (p.N - p.W + 1 ≤ ((cntP soundB S : Nat) : Int)) = en at *
                    generalize hst : settleM S = st at *
                    obtain ⟨mk, v0⟩ := st
                    replace hV := hV.below h6
                    replace hB := bt_ hB h6
                    clear hms hz h6 HP c0 c1' c2' c3 c4 c5 hlaw2
                    have h8 := Blk.new w6 (vdC false false noV 0 (.slice none 0 0)) 58
                    have hb8 := below_alloc (Below.refl w6.heap.size w6) (.cells (vdC false false noV 0 (.slice none 0 0)) 58)
                    have h9 : Blk ((w6.alloc (.cells (vdC false false noV 0 (.slice none 0 0)) 58)).setRow w6.heap.size (vdC en cl v0 mk (.slice Az nz cz))) w6.heap.size (vdC en cl v0 mk (.slice Az nz cz)) 58 := setRow_heap _ _ _ _ _ _ h8
                    have hB9 := below_setRow (bt_ hB hb8) hB.size (vdC en cl v0 mk (.slice Az nz cz))
                    have hV9 : Blk ((w6.alloc (.cells (vdC false false noV 0 (.slice none 0 0)) 58)).setRow w6.heap.size (vdC en cl v0 mk (.slice Az nz cz))) b9 (valC ⟨true, 3, 4, 5⟩) 33 := blk_grown (hV.below hb8) (grown_rowM _ w6.heap.size (vdC en cl v0 mk (.slice Az nz cz))) (by have := blk_lt (show w6.heap[b9]? = _ from hV); intro e; injection e with e; omega)
                    obtain ⟨g0, g2, g3, g4, g5, g6⟩ := vd_cells h9
                    obtain ⟨b0, b1, b2, b3⟩ := val_cells hV9
                    clear hV hB hb8
                    cases en with
                    | false =>
                      clear hlaw3 hen hst
                      go_wp2_with (first
                        | (refine wpList_store_row rfl 58 (.tmp 15) (.tmp 127) rfl w6.heap.size (vdC false cl v0 mk (.slice Az nz cz)) rfl rfl 58 (vdC false false noV 0 (.slice none 0 0)) h8 (by kernel_rfl) rfl (by simp [Value.oneCell']) ?_; generalize (w6.alloc (.cells (vdC false false noV 0 (.slice none 0 0)) 58)).setRow w6.heap.size (vdC false cl v0 mk (.slice Az nz cz)) = w9 at *; refine halt ?_)
                        | fail)
                      refine ⟨?_⟩
                      go_wp2_with fail
                      refine (halive w9).out.mono ?_
                      rintro e wz ⟨rfl, h1⟩
                      replace hB9 := bt_ hB9 h1
                      clear h1 h9 hV9
                      go_wp2
                      go_ret
                      exact ⟨rfl, hB9⟩
                    | true =>
                      have hres := hlaw3 (of_decide_eq_true hen)
                      injection hres with e1 e2
                      subst e1
                      subst e2
                      clear hlaw3 hen hst
                      go_wp2_with (first
                        | (refine wpList_store_row rfl 58 (.tmp 15) (.tmp 127) rfl w6.heap.size (vdC true cl ⟨true, 3, 4, 5⟩ mk (.slice Az nz cz)) rfl rfl 58 (vdC false false noV 0 (.slice none 0 0)) h8 (by kernel_rfl) rfl (by simp [Value.oneCell']) ?_; generalize (w6.alloc (.cells (vdC false false noV 0 (.slice none 0 0)) 58)).setRow w6.heap.size (vdC true cl ⟨true, 3, 4, 5⟩ mk (.slice Az nz cz)) = w9 at *; refine halt ?_)
                        | fail)
                      refine ⟨?_⟩
                      go_wp2_with fail
                      refine (halive w9).out.mono ?_
                      rintro e wz ⟨rfl, h1⟩
                      replace hB9 := bt_ hB9 h1
                      clear h1 h9 hV9
                      go_wp2
                      go_ret
                      exact ⟨rfl, hB9⟩
end Go.Proofs.Ytacbenjfiabegaa
