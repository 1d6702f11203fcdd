/- The walks of space: New, Clone, Copy. -/
import Derived.Test.YtacbenjfiabegaaSi
import Derived.Test.YtacbenjfiabegaaK7
import Derived.Lib.BufferMore
namespace Go.Proofs.Ytacbenjfiabegaa
set_option linter.unusedVariables false
set_option linter.unusedSimpArgs false
open Go.RowKit Go.Proofs.YtacbenjfiabegaaW.PrintWords Go.Proofs.Sh

theorem Ol.form {w0 w : World} {v : Value} {l : List Bool} (h : Ol w0 w v l) (hl : 0 < l.length) : ∃ g cap, v = .slice (some ⟨g, 0, none⟩) l.length cap ∧ w0.heap.size ≤ g ∧ g < w.heap.size := by
  obtain ⟨g, cap, hv, hb, hlt⟩ := (ol_own h).form hl
  exact ⟨g, cap, hv, hb, hlt⟩
theorem fillS_all (l : List Bool) (f : Bool) : ∀ k, k ≤ l.length → fillS l 0 f k = List.replicate k f ++ l.drop k
  | 0, _ => by simp [fillS]
  | k + 1, hk => by
    rw [fillS, fillS_all l f k (by omega), Nat.zero_add, List.set_append_right _ _ (by simp)]
    simp only [List.length_replicate, Nat.sub_self]
    rw [List.drop_eq_getElem_cons (show k < l.length by omega), List.set_cons_zero, List.replicate_succ', List.append_assoc]
    rfl
/-- How many slots are made. -/
def newN (n : Int) : Nat := if n < 1 then 1 else if 256 < n then 256 else n.toNat
theorem newN_b (n : Int) : 1 ≤ newN n ∧ newN n ≤ 256 := by
  unfold newN
  split
  · omega
  · split <;> omega
theorem Sp.lower {w0 w1 w : World} {b g c : Nat} {l : List Bool} (h : Sp w1 w b g c l) (hb : Below w0.heap.size w0 w1) : Sp w0 w b g c l := ⟨Nat.le_trans hb.size h.base, h.box, h.own.lower hb⟩
set_option maxRecDepth 100000 in
set_option maxHeartbeats 1600000 in
theorem spNew_c (n : Int) (w : World) :
   Calls Try.prog 27 #[.int .i64 n] w fun e w' => ∃ b g c, e = .returned (.pointer (some ⟨b, 0, none⟩)) ∧ Sp w w' b g c (List.replicate (newN n) true) ∧ Below w.heap.size w w' := by
  obtain ⟨hm1, hm2⟩ := newN_b n
  have hmm : (if 256 < (if n < 1 then (1 : Int) else n) then (256 : Int) else (if n < 1 then (1 : Int) else n)) = (newN n : Int) := by
    unfold newN
    split <;> split <;> (try split) <;> omega
  generalize newN n = m at *
  have hfull := Lib.hid (show fillS (List.replicate m false) 0 true m = List.replicate m true by rw [fillS_all _ _ _ (by simp)]; simp)
  have hB := Below.refl w.heap.size w
  go_enter Try.func27, Try.ntmps27
  go_wp2_with ((with_reducible refine gate_dst (N := 8) rfl ?_); refine mk_len Kd.bool rfl (N := 8) rfl 50 4 _ _ rfl _ rfl rfl Try.underlying50 (.bool false) 1 infoBool rfl Nat.one_pos (by decide) false rfl ?h0 ?hl hB ?_; (case h0 => omega); (case hl => omega); intro v1 w1 ho hb hg; rw [Int.toNat_natCast] at ho; obtain ⟨g, c, rfl, hg1, hg2⟩ := Ol.form ho (by rw [List.length_replicate]; omega); rw [List.length_replicate] at ho)
  all_goals
    have hbx := Blk.new w1 #[.slice (some ⟨g, 0, none⟩) m c] 82
    have hb2 := below_alloc hb (.cells #[.slice (some ⟨g, 0, none⟩) m c] 82)
    have hS : Sp w (w1.alloc (.cells #[.slice (some ⟨g, 0, none⟩) m c] 82)) w1.heap.size g c (List.replicate m false) := by
      refine ⟨hb.size, ?_, ?_⟩
      · rw [List.length_replicate]; exact hbx
      · rw [List.length_replicate]; exact Own.alloc ho _
    generalize w1.alloc (.cells #[.slice (some ⟨g, 0, none⟩) m c] 82) = w2 at *
    generalize w1.heap.size = b at *
    clear ho hbx hmm
    go_loopw [4, 16] (fun _ s wr => ∃ k : Nat, k ≤ m ∧ s = .int .i64 k ∧ Sp w wr b g c (fillS (List.replicate m false) 0 true k) ∧ Below w.heap.size w wr) (fun _ s _ => m - (intOf s).toNat)
    case atStart => exact ⟨0, by omega, rfl, hS, hb2⟩
    case round =>
      clear hS hb2
      obtain ⟨k, hk, rfl, hS, hB⟩ := hrel
      have hlen : (fillS (List.replicate m false) 0 true k).length = m := by rw [fillS_len, List.length_replicate]
      by_cases hlt : k < m
      · have c0 := hS.box.one
        rw [hlen] at c0
        obtain ⟨d0, d1⟩ := Ol.at hS.own k (by omega)
        have hst := Ol.set hS.own k true
        have hS2 : Sp w (wr.setCell ⟨g, k, none⟩ (.bool true)) b g c (fillS (List.replicate m false) 0 true (k + 1)) := by
          refine ⟨hS.base, ?_, ?_⟩
          · have := hS.box.far hS.ne k (.bool true)
            rw [hlen] at this
            rw [fillS_len, List.length_replicate]
            exact this
          · have := hst.1
            rw [hlen] at this
            rw [fillS_len, List.length_replicate, fillS, Nat.zero_add]
            exact this
        have hB2 := below_set hB hS.gbase (j := k) (v := .bool true)
        clear hst hS hB
        go_wp2
        exact ⟨⟨k + 1, by omega, by go_num, hS2, hB2⟩, by simp [intOf]; omega⟩
      · obtain rfl : k = m := by omega
        rw [hfull.out] at hS
        go_wp2
        go_ret
        exact ⟨b, g, c, rfl, hS, hB⟩
set_option maxRecDepth 100000 in
set_option maxHeartbeats 1600000 in
theorem lClone_c (v : Value) (l : List Bool) (w : World) (hv : Rl w v l) (hl : l.length ≤ 1000000) :
   Calls Try.prog 72 #[v] w fun e w' => ∃ z, e = .returned z ∧ Ol w w' z l ∧ Below w.heap.size w w' := by
  have hL : Ol w (w.alloc (.cells #[] 4)) (.slice (some ⟨w.heap.size, 0, none⟩) 0 0) [] := own_ol (World.ownsRow_lit (base := w.heap.size) (e := 4) (size := 1) w #[] 0 (Nat.le_refl _) (by simp) rfl)
  have hB := below_alloc (Below.refl w.heap.size w) (.cells #[] 4)
  have hv2 := Rk.below hv hB
  obtain ⟨A, c, rfl, hc, hr⟩ := hv
  cases A with
  | none =>
    have h0 : l = [] := by
      rcases l with _ | ⟨x, l⟩
      · rfl
      · obtain ⟨ad, e, _⟩ := kl_at hr 0 (by simp)
        cases e
    subst h0
    have hnil : ∀ W, (binOp .eql 50 (.slice none 0 c) (.slice none 0 0)).run Try.prog W = .ok (.bool true) W := fun W => Lib.run_eql_slice_nil_nil W _ _ Try.underlying50
    go_enter Try.func72, Try.ntmps72
    go_wp2
    go_ret
    exact ⟨_, rfl, Own.nil _ _ _ _, Below.refl _ _⟩
  | some ad =>
    have hnil : ∀ W, (binOp .eql 50 (.slice (some ad) l.length c) (.slice none 0 0)).run Try.prog W = .ok (.bool false) W := fun W => Lib.run_eql_slice_some_nil W _ _ _ Try.underlying50
    go_enter Try.func72, Try.ntmps72
    go_wp2_with (at_builtin; refine app_many (enc := Value.bool) rfl (.tmp 5) (.tmp 6) 50 4 (.bool false) 1 rfl Try.underlying50 infoBool rfl (by decide) _ [] l _ rfl rfl hL hv2 hB ?hl ?_; (case hl => (simp; omega)); intro v1 w1 ho hb hg)
    go_ret
    exact ⟨_, rfl, ho, hb⟩
set_option maxRecDepth 100000 in
set_option maxHeartbeats 1600000 in
theorem copy_c (b g c : Nat) (l : List Bool) (w0 w : World) (h : Sp w0 w b g c l) (hl : 0 < l.length ∧ l.length ≤ 1000) :
   Calls Try.prog 39 #[.pointer (some ⟨b, 0, none⟩)] w fun e w' => ∃ b' g' c', e = .returned (.pointer (some ⟨b', 0, none⟩)) ∧ Sp w w' b' g' c' l ∧ Below w.heap.size w w' := by
  have c0 := h.box.one
  have hcl := lClone_c _ l w h.own.rk (by omega)
  go_enter Try.func39, Try.ntmps39
  go_wp2_with fail
  refine hcl.mono ?_
  rintro e w1 ⟨z, rfl, hz, hB⟩
  obtain ⟨g', c', rfl, hg1, hg2⟩ := Ol.form hz hl.1
  have hbx := Blk.new w1 #[.slice (some ⟨g', 0, none⟩) l.length c'] 82
  have hb2 := below_alloc hB (.cells #[.slice (some ⟨g', 0, none⟩) l.length c'] 82)
  go_wp2
  go_ret
  exact ⟨_, _, _, rfl, ⟨hB.size, hbx, Own.alloc hz _⟩, hb2⟩
set_option maxHeartbeats 1600000 in
theorem copy_nil (w : World) :
   Calls Try.prog 39 #[.pointer none] w fun e w' => e = .returned (.pointer none) ∧ w = w' := by
  go_enter Try.func39, Try.ntmps39
  go_wp2
  go_ret
  exact ⟨rfl, rfl⟩
end Go.Proofs.Ytacbenjfiabegaa
