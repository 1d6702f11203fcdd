/- The walk of choose.Rest. -/
import Derived.Test.YtacbenjfiabegaaHv
import Derived.Test.YtacbenjfiabegaaSl
namespace Go.Proofs.Ytacbenjfiabegaa
set_option linter.unusedVariables false
set_option linter.unusedSimpArgs false
open Go.RowKit Go.Proofs.YtacbenjfiabegaaW.PrintWords Go.Proofs.Sh

/-- A row that rises, and has just the numbers of l that are not in z. -/
def IsRest (l z r : List Int) : Prop := r.Pairwise (· < ·) ∧ ∀ y, y ∈ r ↔ y ∈ l ∧ y ∉ z
/-- What the heap has after k numbers. -/
def HeapAt (l z : List Int) (k : Nat) (H : List Int) : Prop := H.Perm ((l.take k).filter (fun y => decide (y ∉ z))) ∧ Hp.IsHeap 0 id H H.length
theorem heapAt_zero (l z : List Int) : HeapAt l z 0 [] := ⟨by simp, fun k _ h => by simp at h⟩
theorem heapAt_no {l z : List Int} {k : Nat} {H : List Int} (h : HeapAt l z k H) (hk : k < l.length) (hc : l.getD k 0 ∈ z) : HeapAt l z (k + 1) H := by
  refine ⟨?_, h.2⟩
  rw [take_snoc' l k 0 hk, List.filter_append]
  rw [show List.filter (fun y => decide (y ∉ z)) [l.getD k 0] = [] by rw [List.filter_cons_of_neg (by simpa using hc)]; rfl]
  rw [List.append_nil]
  exact h.1
theorem heapAt_yes {l z : List Int} {k : Nat} {H : List Int} (h : HeapAt l z k H) (hk : k < l.length) (hc : ¬ l.getD k 0 ∈ z) : HeapAt l z (k + 1) (Hp.pushL 0 id H (l.getD k 0)) := by
  obtain ⟨p1, p2⟩ := Hp.push_ok 0 id H (l.getD k 0) h.2
  refine ⟨?_, ?_⟩
  · rw [take_snoc' l k 0 hk, List.filter_append]
    rw [show List.filter (fun y => decide (y ∉ z)) [l.getD k 0] = [l.getD k 0] by rw [List.filter_cons_of_pos (by simpa using hc)]; rfl]
    exact p1.trans (h.1.append_right _)
  · rw [p1.length_eq]
    simpa using p2
theorem heapAt_len {l z : List Int} {k : Nat} {H : List Int} (h : HeapAt l z k H) : H.length ≤ l.length := by
  rw [h.1.length_eq]
  exact Nat.le_trans (List.length_filter_le _ _) (by simp; omega)
/-- What is out, and what is still in the heap. -/
structure Midway (l z : List Int) (H out : List Int) : Prop where
  heap : Hp.IsHeap 0 id H H.length
  rises : out.Pairwise (· < ·)
  mem : ∀ y, (y ∈ H ∨ y ∈ out) ↔ y ∈ l ∧ y ∉ z
  ord : ∀ a ∈ out, ∀ y ∈ H, a ≤ y
  len : H.length + out.length ≤ l.length
theorem midway_start {l z H : List Int} (h : HeapAt l z l.length H) : Midway l z H [] := by
  refine ⟨h.2, List.Pairwise.nil, fun y => ?_, fun a ha => by simp at ha, by have := heapAt_len h; simpa using this⟩
  rw [h.1.mem_iff, List.take_length]
  simp
theorem midway_end {l z out : List Int} (h : Midway l z [] out) : IsRest l z out := ⟨h.rises, fun y => by have := h.mem y; simpa using this⟩
theorem midway_step {l z H out : List Int} {n : Nat} (h : Midway l z H out) (hn : H.length = n + 1) :
    (out = [] → Midway l z ((Hp.popL 0 id H).take n) [H.getD 0 0]) ∧ (out ≠ [] → out.getD (out.length - 1) 0 ≠ H.getD 0 0 → Midway l z ((Hp.popL 0 id H).take n) (out ++ [H.getD 0 0])) ∧ (out ≠ [] → out.getD (out.length - 1) 0 = H.getD 0 0 → Midway l z ((Hp.popL 0 id H).take n) out) := by
  obtain ⟨q1, q2, q3, q4, q5⟩ := Hp.pop_ok 0 id H (by omega) h.heap
  rw [show H.length - 1 = n by omega] at q3 q4
  generalize hH : (Hp.popL 0 id H).take n = H' at *
  generalize hx : H.getD 0 0 = x at *
  have hl : H'.length = n := by
    have := q4.length_eq
    simp at this
    omega
  have hm : ∀ y, y ∈ H ↔ y ∈ H' ∨ y = x := fun y => by rw [← q4.mem_iff]; simp
  have hlast : out ≠ [] → out.getD (out.length - 1) 0 ∈ out ∧ ∀ a ∈ out, a ≤ out.getD (out.length - 1) 0 := fun hne => by
    have h0 : 0 < out.length := List.length_pos_iff.2 hne
    have e : out.getD (out.length - 1) 0 = out[out.length - 1]'(by omega) := by rw [List.getD_eq_getElem?_getD, List.getElem?_eq_getElem (by omega)]; rfl
    rw [e]
    refine ⟨List.getElem_mem _, fun a ha => ?_⟩
    obtain ⟨i, hi, rfl⟩ := List.getElem_of_mem ha
    by_cases hi2 : i = out.length - 1
    · subst hi2; exact Int.le_refl _
    · exact Int.le_of_lt (List.pairwise_iff_getElem.1 h.rises i (out.length - 1) hi (by omega) (by omega))
  have hx5 : ∀ y ∈ H', x ≤ y := fun y hy => q5 y ((hm y).2 (.inl hy))
  have hxH : x ∈ H := (hm x).2 (.inr rfl)
  refine ⟨fun ho => ?_, fun ho hne => ?_, fun ho he => ?_⟩
  · subst ho
    refine ⟨by rw [hl]; exact q3, List.pairwise_singleton _ _, fun y => ?_, fun a ha y hy => ?_, by have := h.len; simp at this ⊢; omega⟩
    · rw [← h.mem, hm]; simp
    · rw [List.mem_singleton.1 ha]; exact hx5 y hy
  · refine ⟨by rw [hl]; exact q3, ?_, fun y => ?_, fun a ha y hy => ?_, by have := h.len; simp; omega⟩
    · rw [List.pairwise_append]
      refine ⟨h.rises, List.pairwise_singleton _ _, fun a ha b hb => ?_⟩
      rw [List.mem_singleton.1 hb]
      have h1 := (hlast ho).2 a ha
      have h2 := h.ord _ (hlast ho).1 x hxH
      omega
    · rw [← h.mem, hm]; simp only [List.mem_append, List.mem_singleton]; constructor
      · rintro (h1 | h1 | h1)
        · exact .inl (.inl h1)
        · exact .inr h1
        · exact .inl (.inr h1)
      · rintro ((h1 | h1) | h1)
        · exact .inl h1
        · exact .inr (.inr h1)
        · exact .inr (.inl h1)
    · rcases List.mem_append.1 ha with h1 | h1
      · exact h.ord a h1 y ((hm y).2 (.inl hy))
      · rw [List.mem_singleton.1 h1]; exact hx5 y hy
  · refine ⟨by rw [hl]; exact q3, h.rises, fun y => ?_, fun a ha y hy => h.ord a ha y ((hm y).2 (.inl hy)), by have := h.len; omega⟩
    rw [← h.mem, hm]
    constructor
    · rintro (h1 | h1)
      · exact .inl (.inl h1)
      · exact .inr h1
    · rintro ((h1 | h1) | h1)
      · exact .inl h1
      · rw [h1, ← he]; exact .inr (hlast ho).1
      · exact .inr h1
theorem Nm.form {w0 w : World} {b : Nat} {v : Value} {l : List Int} (h : Nm w0 w b v l) : ∃ A c, v = .slice A l.length c := rk_form (Own.rk h.own)
set_option maxHeartbeats 400000 in
theorem someN_c (b : Nat) (v : Value) (l : List Int) (w0 w : World) (hN : Nm w0 w b v l) :
   Calls Try.prog 80 #[.iface 117 (.pointer (some ⟨b, 0, none⟩))] w fun e w' => e = .returned (.bool (decide (0 < l.length))) ∧ w = w' := by
  have c0 := hN.box.one
  have hm := m_Len b _ w c0
  obtain ⟨A, c, rfl⟩ := hN.form
  have hd : decide ((l.length : Int) > 0) = decide (0 < l.length) := decide_eq_decide.2 (by omega)
  go_enter Try.func80, Try.ntmps80
  go_wp2_with fail
  refine (nLen_c _ _ _ w).mono ?_
  rintro e w1 ⟨rfl, rfl⟩
  go_wp2
  go_ret
  exact ⟨by simp, rfl⟩
def lenAt (w : World) (b : Nat) : Nat := match w.cell? ⟨b, 0, none⟩ with | some (.slice _ n _) => n | _ => 0
theorem Nm.lenAt {w0 w : World} {b : Nat} {v : Value} {l : List Int} (h : Nm w0 w b v l) : lenAt w b = l.length := by
  obtain ⟨A, c, rfl⟩ := h.form
  have hc := h.box.one
  unfold Go.Proofs.Ytacbenjfiabegaa.lenAt
  rw [hc]
theorem nm_len {w0 w : World} {b n c : Nat} {A : Option Addr} {l : List Int} (h : Nm w0 w b (.slice A n c) l) : n = l.length := by
  obtain ⟨A', c', e⟩ := h.form
  injection e
theorem nm_new (w : World) : Nm w ((w.alloc (.cells #[] 3)).alloc (.cells #[.slice (some ⟨w.heap.size, 0, none⟩) 0 0] 118)) (w.heap.size + 1) (.slice (some ⟨w.heap.size, 0, none⟩) 0 0) [] := by
  have h1 := lit_ownI (w0 := w) (W := w) [] #[] rfl 0 rfl (by omega) (Nat.le_refl _)
  refine ⟨by omega, ?_, Own.alloc h1 _⟩
  have := Blk.new (w.alloc (.cells #[] 3)) #[.slice (some ⟨w.heap.size, 0, none⟩) 0 0] 118
  rwa [show (w.alloc (.cells #[] 3)).heap.size = w.heap.size + 1 from Array.size_push _] at this
set_option maxRecDepth 100000 in
set_option maxHeartbeats 1600000 in
theorem rest_c (u z : Value) (l zs : List Int) (w : World) (hu : Ri w u l) (hz : Ri w z zs) (hl : l.length ≤ 100000) :
   Calls Try.prog 44 #[u, z] w fun e w' => ∃ v r, e = .returned v ∧ Oi w w' v r ∧ Below w.heap.size w w' ∧ IsRest l zs r := by
  obtain ⟨A, c, rfl, hc, hr⟩ := hu
  have hu : Ri w (.slice A l.length c) l := ⟨A, c, rfl, hc, hr⟩
  have hN0 := nm_new w
  have hB0 : Below w.heap.size w ((w.alloc (.cells #[] 3)).alloc (.cells #[.slice (some ⟨w.heap.size, 0, none⟩) 0 0] 118)) := below_alloc (below_alloc (Below.refl _ _) _) _
  go_enter Try.func44, Try.ntmps44
  go_wp2_with fail
  generalize (w.alloc (.cells #[] 3)).alloc (.cells #[.slice (some ⟨w.heap.size, 0, none⟩) 0 0] 118) = w1 at *
  generalize w.heap.size + 1 = b at *
  generalize (Value.slice (some ⟨w.heap.size, 0, none⟩) 0 0) = v0 at *
  go_loopw [15] (fun i wr => ∃ (k : Nat) (v : Value) (H : List Int), i = .int .i64 k ∧ k ≤ l.length ∧ Nm w wr b v H ∧ Below w.heap.size w wr ∧ Hid (HeapAt l zs k H)) (fun i _ => l.length - (intOf i).toNat)
  case atStart => exact ⟨0, v0, [], rfl, by omega, hN0, hB0, Lib.hid (heapAt_zero l zs)⟩
  case round =>
    clear hN0 hB0
    obtain ⟨k, v, H, rfl, hk, hN, hB, hH⟩ := hrel
    have hHl := heapAt_len hH.out
    by_cases hlt : k < l.length
    · obtain ⟨ad, rfl, c1⟩ := ki_at hr k hlt
      have c1 := pw_cell_below hB c1
      have hcon := iContains_c z zs (l.getD k 0) wr (hz.below hB)
      have hno := Lib.hid (fun hc => heapAt_no hH.out hlt hc)
      have hyes := Lib.hid (fun hc => heapAt_yes hH.out hlt hc)
      have hps := Lib.hid (hPush_c b v H (l.getD k 0) w wr hN hB (by omega))
      generalize l.getD k 0 = x at *
      go_wp2_with fail
      refine hcon.mono ?_
      rintro e w2 ⟨rfl, rfl⟩
      by_cases hx : x ∈ zs
      · rw [decide_eq_true hx]
        have h1 := Lib.hid (hno.out hx)
        clear hx hno hyes hcon hps
        go_wp2
        exact ⟨⟨k + 1, v, H, by go_num, by omega, hN, hB, h1⟩, by simp [intOf]; omega⟩
      · rw [decide_eq_false hx]
        have h1 := Lib.hid (hyes.out hx)
        clear hx hno hyes hcon
        go_wp2_with fail
        refine hps.out.mono ?_
        rintro e w3 ⟨rfl, v3, hN3, hB3, _⟩
        go_wp2
        exact ⟨⟨k + 1, v3, _, by go_num, by omega, hN3, hB3, h1⟩, by simp [intOf]; omega⟩
    · obtain rfl : k = l.length := by omega
      have hm := Lib.hid (midway_start hH.out)
      clear hlt
      go_wp2_with fail
      go_loopw [8] (fun s wr => ∃ (v : Value) (H out : List Int), Nm w wr b v H ∧ Oi w wr s out ∧ NeRow v s ∧ Below w.heap.size w wr ∧ Hid (Midway l zs H out)) (fun _ wr => lenAt wr b)
      case atStart => exact ⟨v, H, [], hN, Own.nil _ _ _ _, fun g hg => by simp [Value.ownBlock], hB, hm⟩
      case round =>
        clear hN hB hH hHl hm
        clear H v
        obtain ⟨v, H, out, hN, hO, hne, hB, hM⟩ := hrel
        have hMl := hM.out.len
        have hsome := someN_c b v H w wr hN
        go_wp2_with fail
        refine hsome.mono ?_
        rintro e w2 ⟨rfl, rfl⟩
        by_cases h0 : 0 < H.length
        · rw [decide_eq_true h0]
          obtain ⟨g, c2, rfl, hg1, hg2⟩ := Oi.form hN.own h0
          obtain ⟨n, hn⟩ : ∃ n, H.length = n + 1 := ⟨H.length - 1, by omega⟩
          have hst := Lib.hid (midway_step hM.out hn)
          obtain ⟨z1, z2⟩ := hN.own.at 0 h0
          have c0 := hN.box.one
          rw [hn] at c0 hN
          have hpop := Lib.hid (hPop_c b g n c2 H w wr hN hB hn (by omega) hM.out.heap)
          have hlen := hN.lenAt
          clear hM h0 hsome
          generalize (Hp.popL 0 id H).take n = H2 at *
          generalize H.getD 0 0 = x at *
          go_wp2_with fail
          refine hpop.out.mono ?_
          rintro e w3 ⟨rfl, hN3, hB3, hK3⟩
          obtain ⟨hO3, hne3⟩ := hK3 _ out hO hne
          have hlen3 := hN3.lenAt
          clear hpop hN hB hO hne z1 z2 c0 hK3
          obtain ⟨A1, n1, rfl⟩ := rk_form (Own.rk hO3)
          have hr1 := Own.rk hO3
          by_cases ho : out = []
          · have h3 := Lib.hid (hst.out.1 ho)
            subst ho
            have hl2 : H2.length = n := (nm_len hN3).symm
            have t1 : (((([] : List Int).length : Nat) : Int) == 0) = true := rfl
            clear hst
            go_wp2_with (at_builtin; refine app_int rfl (.tmp 53) (.tmp 55) rfl (.slice A1 0 n1) [] x rfl rfl hO3 hB3 ?hl ?_; (case hl => (first | (simp; done) | omega)); intro v5 w5 ho5 hb5 hg5 hf5)
            have hbx : Nm w w5 b (.slice (some ⟨g, 0, none⟩) n c2) H2 := ⟨hN3.base, blk_grown hN3.box hg5 (own_ne (oi_own hO3) hN3.box (by decide)), own_oi (own_other (oi_own hN3.own) hg5 (ne_other fun k h1 h2 => hne3 k h2 h1))⟩
            have hn5 : NeRow (.slice (some ⟨g, 0, none⟩) n c2) v5 := fun k h1 h2 => hf5 k (oi_lt hN3.own h1) (hne3 k h1) h2
            exact ⟨⟨.slice (some ⟨g, 0, none⟩) n c2, H2, _, hbx, ho5, hn5, hb5, h3⟩, by rw [hbx.lenAt, hlen]; omega⟩
          · have h1 := And.intro (hst.out.2.1 ho) (hst.out.2.2 ho)
            have h0 : 0 < out.length := List.length_pos_iff.2 ho
            have hl2 : H2.length = n := (nm_len hN3).symm
            have t1 : ((out.length : Int) == 0) = false := beq_eq_false_iff_ne.2 (by omega)
            have t2 : IntKind.i64.wrap ((out.length : Int) - 1) = ((out.length - 1 : Nat) : Int) := by rw [wrapI _ (by omega) (by omega)]; omega
            obtain ⟨g1, c1, e1, hg3, hg4⟩ := Oi.form hO3 h0
            injection e1 with e2 e3 e4
            subst e2 e4
            obtain ⟨z1, z2⟩ := hO3.at (out.length - 1) (by omega)
            have hlt : out.length - 1 < out.length := by omega
            clear hst ho
            generalize hj : out.length - 1 = j at *
            generalize hy : out.getD j 0 = y at *
            by_cases hc : y = x
            · have t3 : (y != x) = false := by simp [hc]
              have hst := Lib.hid (h1.2 hc)
              clear hc h1
              go_wp2
              exact ⟨⟨.slice (some ⟨g, 0, none⟩) n c2, H2, out, hN3, hO3, hne3, hB3, hst⟩, by rw [hlen3, hlen]; omega⟩
            · have t3 : (y != x) = true := by simp [hc]
              have h3 := Lib.hid (h1.1 hc)
              clear hc h1
              go_wp2_with (at_builtin; refine app_int rfl (.tmp 53) (.tmp 55) rfl (.slice (some ⟨g1, 0, none⟩) out.length n1) out x rfl rfl hO3 hB3 ?hl ?_; (case hl => (first | (simp; done) | omega)); intro v5 w5 ho5 hb5 hg5 hf5)
              have hbx : Nm w w5 b (.slice (some ⟨g, 0, none⟩) n c2) H2 := ⟨hN3.base, blk_grown hN3.box hg5 (own_ne (oi_own hO3) hN3.box (by decide)), own_oi (own_other (oi_own hN3.own) hg5 (ne_other fun k h1 h2 => hne3 k h2 h1))⟩
              have hn5 : NeRow (.slice (some ⟨g, 0, none⟩) n c2) v5 := fun k h1 h2 => hf5 k (oi_lt hN3.own h1) (hne3 k h1) h2
              exact ⟨⟨.slice (some ⟨g, 0, none⟩) n c2, H2, _, hbx, ho5, hn5, hb5, h3⟩, by rw [hbx.lenAt, hlen]; omega⟩
        · rw [decide_eq_false h0]
          obtain rfl : H = [] := List.length_eq_zero_iff.1 (by omega)
          have hE := Lib.hid (midway_end hM.out)
          clear h0 hsome
          go_wp2
          go_ret
          exact ⟨_, out, rfl, hO, hB, hE.out⟩
end Go.Proofs.Ytacbenjfiabegaa
