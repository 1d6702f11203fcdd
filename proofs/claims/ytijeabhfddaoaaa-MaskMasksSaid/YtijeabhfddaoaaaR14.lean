/- The walks of the reference of layer 14: Check, Zeros, Shift. -/
import Derived.Test.YtijeabhfddaoaaaMa
import Derived.Test.YtijeabhfddaoaaaR03
import Derived.Test.YtijeabhfddaoaaaR13b
namespace Go.Proofs.Ytijeabhfddaoaaa
set_option linter.unusedVariables false
open Go.RowKit Go.Proofs.YtijeabhfddaoaaaW.PrintWords Go.Proofs.Sh

set_option maxRecDepth 100000 in
set_option maxHeartbeats 1600000 in
theorem rHas_c (v : Value) (l : List Int) (x : Int) (w : World) (hv : Ri w v l) :
   Calls Try.prog 215 #[v, .int .i64 x] w fun e w' => e = .returned (.bool (decide (x ∈ l))) ∧ w = w' := by
  obtain ⟨A, c, rfl, hc, hr⟩ := hv
  have hl := ri_len hr
  go_enter Try.func215, Try.ntmps215
  go_wp2_with fail
  go_loop [5] (fun i => ∃ k : Nat, k ≤ l.length ∧ i = .int .i64 k ∧ Hid (x ∉ l.take k)) (fun i => l.length - (intOf i).toNat)
  case atStart => exact ⟨0, by omega, rfl, Lib.hid (by simp)⟩
  case round =>
    obtain ⟨k, hk, rfl, hn⟩ := hrel
    by_cases hlt : k < l.length
    · obtain ⟨ad, rfl, c1⟩ := ki_at hr k hlt
      have hst := take_snoc' l k 0 hlt
      by_cases hcx : l.getD k 0 = x
      · have t2 : (l.getD k 0 == x) = true := by rw [hcx]; simp
        have hi : Hid (decide (x ∈ l) = true) := Lib.hid (decide_eq_true (by
          refine List.mem_of_mem_take (i := k + 1) ?_
          rw [hst, hcx]; exact List.mem_append.2 (.inr (List.mem_singleton_self _))))
        generalize l.getD k 0 = a at *
        clear hcx hst
        go_wp2
        go_ret
        rw [hi.out]
        exact ⟨rfl, rfl⟩
      · have t2 : (l.getD k 0 == x) = false := beq_eq_false_iff_ne.2 hcx
        have hi : Hid (x ∉ l.take (k + 1)) := Lib.hid (by
          rw [hst]
          exact fun h => (List.mem_append.1 h).elim hn.out (fun h => hcx (List.mem_singleton.1 h).symm))
        generalize l.getD k 0 = a at *
        clear hcx hst
        go_wp2
        exact ⟨⟨k + 1, by omega, by go_num, hi⟩, by simp [intOf]; try omega⟩
    · obtain rfl : k = l.length := by omega
      have h1 := hn.out
      rw [List.take_length] at h1
      have h2 := Lib.hid (decide_eq_false h1)
      clear h1
      go_wp2
      go_ret
      rw [h2.out]
      exact ⟨rfl, rfl⟩
theorem fil_stop (T : Int) (zs l : List Int) (h : ¬ ((fil T zs l).length : Int) < T) : ∀ m, fil T zs (l ++ m) = fil T zs l := F.snoc_ind (by rw [List.append_nil]) (fun m i ih => by
  rw [← List.append_assoc, fil_snoc, ih, if_neg (fun e => h e.1)])
theorem fil_mem (T : Int) (zs : List Int) : ∀ l, ∀ i ∈ fil T zs l, i ∈ zs ∨ i ∈ l := F.snoc_ind (fun i hi => .inl (by simpa [fil] using hi)) (fun l j ih i hi => by
  rw [fil_snoc] at hi
  split at hi
  · rcases List.mem_append.1 hi with hi | hi
    · exact (ih i hi).imp id (fun h => List.mem_append.2 (.inl h))
    · exact .inr (List.mem_append.2 (.inr hi))
  · exact (ih i hi).imp id (fun h => List.mem_append.2 (.inl h)))
theorem fil_has (p : Pl) (zs : List Int) (k : Nat) : ((k + 1 : Nat) : Int) ∈ fil p.T zs ((allOf p).take k) ↔ ((k + 1 : Nat) : Int) ∈ zs := by
  constructor
  · intro h
    rcases fil_mem _ _ _ _ h with h | h
    · exact h
    · have := mem_all_take p k _ h; omega
  · intro h
    obtain ⟨r, hr⟩ := fil_pre p.T zs ((allOf p).take k)
    rw [hr]
    exact List.mem_append.2 (.inl h)
set_option maxRecDepth 100000 in
set_option maxHeartbeats 3200000 in
theorem rZeros14_c (p : Pl) (h : p.Ok) (v : Value) (zs : List Int) (w : World) (hv : Ri w v zs) (hl : zs.length ≤ 1000) :
   Calls Try.prog 193 #[planV p, v] w fun e w' => ∃ z, e = .returned z ∧ Oi w w' z (fil p.T zs (allOf p)) ∧ Below w.heap.size w w' := by
  have hN1 : Hid (p.N.toNat = p.N ∧ p.N ≤ 256) := Lib.hid (by have := h.t; have := h.l; have := h.tl; have := h.wn; have := h.nl; omega)
  have hp := Blk.new w (planC p) 33
  have hb0 := below_alloc (Below.refl w.heap.size w) (.cells (planC p) 33)
  have hL := lit_ownI (w0 := w.alloc (.cells (planC p) 33)) (W := w.alloc (.cells (planC p) 33)) [] #[] rfl 0 rfl (by decide) (Nat.le_refl _)
  have hB1 := below_alloc (Below.refl (w.alloc (.cells (planC p) 33)).heap.size (w.alloc (.cells (planC p) 33))) (.cells #[] 3)
  have hvx := hv.below hb0
  rw [show (w.alloc (.cells (planC p) 33)).heap.size = w.heap.size + 1 from World.size_alloc _ _] at hL
  have hv2 := hvx.below hB1
  go_enter Try.func193, Try.ntmps193
  go_wp2_with (at_builtin; refine app_many (enc := Value.int .i64) (w0 := w.alloc (.cells (planC p) 33)) rfl (.tmp 7) (.tmp 8) 36 3 (.int .i64 0) 8 rfl Try.underlying36 infoI rfl (by decide) _ [] zs _ rfl rfl hL hv2 hB1 ?hl ?_; (case hl => (simp; omega)); intro v1 w1 ho hb hg)
  rw [List.nil_append] at ho
  generalize w.alloc (.cells (planC p) 33) = wB at *
  have hPx := Lib.hid hp
  have hBx := Lib.hid hb0
  have hO := ho
  clear ho hg hL hB1 hv2 hvx hp hb0
  go_loopw [5, 6] (fun s i wr => ∃ k : Nat, k ≤ p.N.toNat ∧ i = .int .i64 ((k : Int) + 1) ∧ Oi wB wr s (fil p.T zs ((allOf p).take k)) ∧ Hid ((fil p.T zs ((allOf p).take k)).length ≤ 1000 + k) ∧ Below wB.heap.size wB wr) (fun _ i _ => p.N.toNat + 1 - (intOf i).toNat)
  case atStart => exact ⟨0, by omega, rfl, hO, Lib.hid (by simpa [fil] using hl), hb⟩
  case round =>
    clear hO hb
    obtain ⟨k, hk, rfl, hO, hlen, hb⟩ := hrel
    obtain ⟨c0, c1, c2, c3, c4, c5⟩ := cells6 (hPx.out.below hb)
    obtain ⟨A9, n9, rfl⟩ := rk_form hO.rk
    have u1 : IntKind.i64.wrap ((k : Int) + 1 + 1) = (k : Int) + 1 + 1 := wrapI _ (by have := hN1.out; omega) (by have := hN1.out; omega)
    by_cases hlt : k < p.N.toNat
    · have s1 : decide ((k : Int) + 1 ≤ p.N) = true := decide_eq_true (by have := hN1.out; omega)
      have hF := Lib.hid (fil_snoc p.T zs ((allOf p).take k) (((k + 1 : Nat) : Int)))
      have hS := Lib.hid (all_take_succ p k hlt)
      have hH := Lib.hid (fil_has p zs k)
      have hst := Lib.hid (fil_stop p.T zs ((allOf p).take k))
      generalize hout : fil p.T zs ((allOf p).take k) = out at *
      replace hout := Lib.hid hout
      have hlo : out.length ≤ 5000 := by have := hlen.out; have := hN1.out; omega
      by_cases t1 : (out.length : Int) < p.T
      · have t2 := decide_eq_true t1
        have t3 := Lib.hid t1
        clear t1
        by_cases hm : (((k + 1 : Nat) : Int)) ∈ out
        · have hm2 : Hid (decide ((k : Int) + 1 ∈ out) = true) := Lib.hid (decide_eq_true (by simpa using hm))
          have hf : Hid (fil p.T zs ((allOf p).take (k + 1)) = out) := Lib.hid (by rw [hS.out, hF.out, if_neg (fun e => e.2 (hH.out.1 hm))])
          clear hm hF hS hH
          go_wp2_with fail
          refine (rHas_c _ _ ((k : Int) + 1) _ hO.rk).mono ?_
          rintro e w_ ⟨rfl, rfl⟩
          rw [hm2.out]
          go_wp2
          exact ⟨⟨k + 1, by omega, by simp, by rw [hf.out]; exact hO, Lib.hid (by have := hlen.out; rw [hf.out]; omega), hb⟩, by simp [intOf]; try omega⟩
        · have hm2 : Hid (decide ((k : Int) + 1 ∈ out) = false) := Lib.hid (decide_eq_false (by simpa using hm))
          have hf : Hid (fil p.T zs ((allOf p).take (k + 1)) = out ++ [(k : Int) + 1]) := Lib.hid (by rw [hS.out, hF.out, if_pos ⟨t3.out, fun e => hm (hH.out.2 e)⟩]; simp)
          clear hm hF hS hH
          go_wp2_with fail
          refine (rHas_c _ _ ((k : Int) + 1) _ hO.rk).mono ?_
          rintro e w_ ⟨rfl, rfl⟩
          rw [hm2.out]
          go_wp2_with (at_builtin; refine app_int rfl (.tmp 27) (.tmp 29) rfl _ out ((k : Int) + 1) rfl rfl hO hb ?hl ?_; (case hl => omega); intro v1 w1 ho hb hg hn)
          exact ⟨⟨k + 1, by omega, by simp, by rw [hf.out]; exact ho, Lib.hid (by have := hlen.out; rw [hf.out, List.length_append, List.length_singleton]; omega), hb⟩, by simp [intOf]; try omega⟩
      · have t2 := decide_eq_false t1
        have hf : Hid (fil p.T zs (allOf p) = out) := Lib.hid (by
          have := hst.out (by omega) ((allOf p).drop k)
          rw [List.take_append_drop] at this
          exact this)
        clear t1 hF hS hH hst
        go_wp2
        go_ret
        rw [hf.out]
        exact ⟨_, rfl, hO.lower hBx.out, bt_ hBx.out hb⟩
    · obtain rfl : k = p.N.toNat := by omega
      have s1 : decide ((p.N.toNat : Int) + 1 ≤ p.N) = false := decide_eq_false (by have := hN1.out; omega)
      rw [List.take_of_length_le (by rw [all_len]; omega)] at hO ⊢
      go_wp2
      go_ret
      exact ⟨_, rfl, hO.lower hBx.out, bt_ hBx.out hb⟩
/-! ### Check -/
set_option maxRecDepth 100000 in
set_option maxHeartbeats 1600000 in
theorem rCheck14_no (p : Pl) (hi : p.In) (h : ¬ p.Ok) (v u : Value) (w : World) :
   Calls Try.prog 138 #[planV p, v, u] w fun e w' => e = .returned (.int .i64 1) ∧ Below w.heap.size w w' := by
  have HP := Blk.new w (planC p) 33
  have hB := below_alloc (Below.refl w.heap.size w) (.cells (planC p) 33)
  go_enter Try.func138, Try.ntmps138
  go_wp2_with fail
  refine (rRight_no p hi h _).mono ?_
  rintro e w1 ⟨rfl, h1⟩
  go_wp2
  go_ret
  exact ⟨rfl, bt_ hB h1⟩
set_option maxRecDepth 100000 in
set_option maxHeartbeats 3200000 in
theorem rCheck14_c (p : Pl) (h : p.Ok) (v u : Value) (d : List F) (zs : List Int) (w : World) (hv : Rb w v d) (hu : Ri w u zs) :
   Calls Try.prog 138 #[planV p, v, u] w fun e w' => e = .returned (.int .i64 (maE p d.length zs)) ∧ Below w.heap.size w w' := by
  have hpl : Hid (p.T ≤ 256 ∧ p.N ≤ 256) := Lib.hid (by have := h.t; have := h.l; have := h.tl; have := h.wn; have := h.nl; omega)
  have HP := Blk.new w (planC p) 33
  have hB := below_alloc (Below.refl w.heap.size w) (.cells (planC p) 33)
  obtain ⟨A0, c0', rfl, hc, hr⟩ := hv
  have hld := kb_len hr
  have hu := hu.below hB
  obtain ⟨A, c, rfl, hc', hr⟩ := hu
  have hlz := ri_len hr
  have hu : Ri _ (.slice A zs.length c) zs := ⟨A, c, rfl, hc', hr⟩
  go_enter Try.func138, Try.ntmps138
  go_wp2_with fail
  refine (rRight_yes p h _).mono ?_
  rintro e w1 ⟨rfl, h1⟩
  have HP := HP.below h1
  have hB := bt_ hB h1
  obtain ⟨c0, c1, c2, c3, c4, c5⟩ := cells6 HP
  have hu := hu.below h1
  have hr := rk_C hu
  clear h1
  by_cases g1 : (d.length : Int) = p.L
  · have t1 : ((d.length : Int) != p.L) = false := by rw [g1]; simp
    replace g1 := Lib.hid g1
    by_cases g2 : p.T < (zs.length : Int)
    · have hf : Hid (maE p d.length zs = 2) := Lib.hid (by
        unfold maE
        rw [if_neg (fun e => e g1.out), if_pos g2])
      have t2 : decide (p.T < (zs.length : Int)) = true := decide_eq_true g2
      go_wp2
      go_ret
      rw [hf.out]
      exact ⟨rfl, hB⟩
    · have t2 : decide (p.T < (zs.length : Int)) = false := decide_eq_false g2
      have hz6 : zs.length < 1000000 := by have := hpl.out; omega
      replace g2 := Lib.hid g2
      go_wp2_with fail
      go_loopw [7] (fun i wr => ∃ k : Nat, k ≤ zs.length ∧ i = .int .i64 k ∧ Hid ((zs.take k).any (bad0 p) = false) ∧ Below w1.heap.size w1 wr ∧ Below w.heap.size w wr) (fun i _ => zs.length - (intOf i).toNat)
      case atStart => exact ⟨0, by omega, rfl, Lib.hid (by simp), Below.refl _ _, hB⟩
      case round =>
        clear hB
        obtain ⟨k, hk, rfl, hn, hB1, hB⟩ := hrel
        by_cases hlt : k < zs.length
        · obtain ⟨ad, rfl, d0⟩ := ki_at hr k hlt
          have d0 := pw_cell_below hB1 d0
          have HP := HP.below hB1
          obtain ⟨c0, c1, c2, c3, c4, c5⟩ := cells6 HP
          have hm : Hid (zs.getD k 0 ∈ zs) := Lib.hid (by rw [List.getD_eq_getElem?_getD, List.getElem?_eq_getElem hlt]; exact List.getElem_mem hlt)
          have HS2 := Lib.hid (any_take_succ zs (bad0 p) 0 k hlt)
          generalize zs.getD k 0 = i at *
          by_cases hi : 1 ≤ i ∧ i ≤ p.N
          · have hd := Lib.hid (decide_eq_true hi)
            have hn2 : Hid ((zs.take (k + 1)).any (bad0 p) = false) := Lib.hid (by
              rw [HS2.out, hn.out]
              unfold bad0
              rw [hd.out]; rfl)
            clear hi
            go_wp2_with fail
            go_region_held3 (fun w' => w'.cell? ⟨w.heap.size, 0, none⟩ = some (.int .i64 p.N) ∧ w'.cell? ⟨w.heap.size, 1, none⟩ = some (.int .i64 p.T) ∧ w'.cell? ⟨w.heap.size, 2, none⟩ = some (.int .i64 p.L) ∧ w'.cell? ⟨w.heap.size, 3, none⟩ = some (.int .i64 p.W) ∧ w'.cell? ⟨w.heap.size, 4, none⟩ = some (.int .i64 p.S) ∧ w'.cell? ⟨w.heap.size, 5, none⟩ = some (.int .i64 p.R) ∧ w'.cell? (ad.add k) = some (.int .i64 i))
              (go_keep)
              (first
                | (go_at_call 69; refine (rIs_c p i _).mono ?_; rintro e w6 ⟨rfl, h6⟩; (repeat (first | replace h6 := buN h6 | replace h6 := bu h6)); have d0 := pw_cell_below h6 d0; have HP := HP.below h6; obtain ⟨c0, c1, c2, c3, c4, c5⟩ := cells6 HP; have hB1 := bt_ hB1 h6; have hB := bt_ hB h6; rw [hd.out])
                | fail)
            go_wp2
            exact ⟨⟨k + 1, by omega, by go_num, hn2, hB1, hB⟩, by simp [intOf]; try omega⟩
          · have hd := Lib.hid (decide_eq_false hi)
            have hb : Hid (maE p d.length zs = 2) := Lib.hid (by
              unfold maE
              rw [if_neg (fun e => e g1.out), if_neg (by have := g2.out; omega), if_pos]
              exact List.any_eq_true.2 ⟨i, hm.out, by unfold bad0; rw [hd.out]; simp⟩)
            clear hi
            go_wp2_with fail
            go_region_held3 (fun w' => w'.cell? ⟨w.heap.size, 0, none⟩ = some (.int .i64 p.N) ∧ w'.cell? ⟨w.heap.size, 1, none⟩ = some (.int .i64 p.T) ∧ w'.cell? ⟨w.heap.size, 2, none⟩ = some (.int .i64 p.L) ∧ w'.cell? ⟨w.heap.size, 3, none⟩ = some (.int .i64 p.W) ∧ w'.cell? ⟨w.heap.size, 4, none⟩ = some (.int .i64 p.S) ∧ w'.cell? ⟨w.heap.size, 5, none⟩ = some (.int .i64 p.R) ∧ w'.cell? (ad.add k) = some (.int .i64 i))
              (go_keep)
              (first
                | (go_at_call 69; refine (rIs_c p i _).mono ?_; rintro e w6 ⟨rfl, h6⟩; (repeat (first | replace h6 := buN h6 | replace h6 := bu h6)); have d0 := pw_cell_below h6 d0; have HP := HP.below h6; obtain ⟨c0, c1, c2, c3, c4, c5⟩ := cells6 HP; have hB1 := bt_ hB1 h6; have hB := bt_ hB h6; rw [hd.out])
                | fail)
            go_wp2
            go_ret
            rw [hb.out]
            exact ⟨rfl, hB⟩
        · obtain rfl : k = zs.length := by omega
          rw [List.take_length] at hn
          have hu := hu.below hB1
          clear hB1
          have hgood : Hid (∀ i ∈ zs, 1 ≤ i ∧ i ≤ 256) := Lib.hid (fun i hi => by
            have h6 : bad0 p i = false := by
              cases hb : bad0 p i with
              | false => rfl
              | true => have := List.any_eq_true.2 ⟨i, hi, hb⟩; rw [hn.out] at this; exact absurd this (by decide)
            unfold bad0 at h6
            simp only [Bool.not_eq_false', decide_eq_true_eq] at h6
            have := hpl.out.2
            omega)
          go_wp2_with fail
          refine (rPoints_c _ _ _ hu hz6).mono ?_
          rintro e w3 ⟨vP, rfl, sP, h3⟩
          have hB := bt_ hB h3
          clear h3 hu
          go_wp2_with fail
          refine (rUnlike_c _ _ _ sP.rk).mono ?_
          rintro e w4 ⟨rfl, h4⟩
          have hB := bd hB h4
          clear sP h4
          by_cases g3 : zs.Nodup
          · have e2 : Hid (decide ((zs.map point).Nodup) = true) := Lib.hid (decide_eq_true ((nodup_points hgood.out).2 g3))
            rw [e2.out]
            have hf : Hid (maE p d.length zs = 0) := Lib.hid (by
              unfold maE
              rw [if_neg (fun e => e g1.out), if_neg (by have := g2.out; omega), if_neg (by rw [hn.out]; simp), if_neg (fun h => h g3)])
            clear g3
            go_wp2
            go_ret
            rw [hf.out]
            exact ⟨rfl, hB⟩
          · have e2 : Hid (decide ((zs.map point).Nodup) = false) := Lib.hid (decide_eq_false (fun e => g3 ((nodup_points hgood.out).1 e)))
            rw [e2.out]
            have hf : Hid (maE p d.length zs = 5) := Lib.hid (by
              unfold maE
              rw [if_neg (fun e => e g1.out), if_neg (by have := g2.out; omega), if_neg (by rw [hn.out]; simp), if_pos g3])
            clear g3
            go_wp2
            go_ret
            rw [hf.out]
            exact ⟨rfl, hB⟩
  · have hf : Hid (maE p d.length zs = 3) := Lib.hid (by
      unfold maE
      rw [if_pos g1])
    have t1 : ((d.length : Int) != p.L) = true := bne_iff_ne.2 g1
    replace g1 := Lib.hid g1
    go_wp2
    go_ret
    rw [hf.out]
    exact ⟨rfl, hB⟩
end Go.Proofs.Ytijeabhfddaoaaa
