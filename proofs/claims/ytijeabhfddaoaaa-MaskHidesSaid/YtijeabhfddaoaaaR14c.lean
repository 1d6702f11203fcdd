/- Several texts of this seat, one behind the other. -/
import Derived.Test.YtijeabhfddaoaaaMc
import Derived.Test.YtijeabhfddaoaaaR03
import Derived.Test.YtijeabhfddaoaaaR13b
import Derived.Test.YtijeabhfddaoaaaM11
import Derived.Test.YtijeabhfddaoaaaK9
/- The walks of the reference of layer 14: Check, Zeros, Shift. -/
namespace Go.Proofs.Ytijeabhfddaoaaa
set_option linter.unusedVariables false
open Go.RowKit Go.Proofs.YtijeabhfddaoaaaW.PrintWords Go.Proofs.Sh

set_option maxRecDepth 100000 in
set_option maxHeartbeats 1600000 in
theorem rHas_c (v : Value) (l : List Int) (x : Int) (w : World) (hv : Ri w v l) :
   Calls Try.prog 215 #[v, .int .i64 x] w fun e w' => e = .returned (.bool (decide (x ∈ l))) ∧ w = w' := by
  obtain ⟨A, c, rfl, hc, hr⟩ := hv
  have hl := ri_len hr
  go_enter Try.func215, Try.ntmps215
  go_wp2_with fail
  go_loop [5] (fun i => ∃ k : Nat, k ≤ l.length ∧ i = .int .i64 k ∧ Hid (x ∉ l.take k)) (fun i => l.length - (intOf i).toNat)
  case atStart => exact ⟨0, by omega, rfl, Lib.hid (by simp)⟩
  case round =>
    obtain ⟨k, hk, rfl, hn⟩ := hrel
    by_cases hlt : k < l.length
    · obtain ⟨ad, rfl, c1⟩ := ki_at hr k hlt
      have hst := take_snoc' l k 0 hlt
      by_cases hcx : l.getD k 0 = x
      · have t2 : (l.getD k 0 == x) = true := by rw [hcx]; simp
        have hi : Hid (decide (x ∈ l) = true) := Lib.hid (decide_eq_true (by
          refine List.mem_of_mem_take (i := k + 1) ?_
          rw [hst, hcx]; exact List.mem_append.2 (.inr (List.mem_singleton_self _))))
        generalize l.getD k 0 = a at *
        clear hcx hst
        go_wp2
        go_ret
        rw [hi.out]
        exact ⟨rfl, rfl⟩
      · have t2 : (l.getD k 0 == x) = false := beq_eq_false_iff_ne.2 hcx
        have hi : Hid (x ∉ l.take (k + 1)) := Lib.hid (by
          rw [hst]
          exact fun h => (List.mem_append.1 h).elim hn.out (fun h => hcx (List.mem_singleton.1 h).symm))
        generalize l.getD k 0 = a at *
        clear hcx hst
        go_wp2
        exact ⟨⟨k + 1, by omega, by go_num, hi⟩, by simp [intOf]; try omega⟩
    · obtain rfl : k = l.length := by omega
      have h1 := hn.out
      rw [List.take_length] at h1
      have h2 := Lib.hid (decide_eq_false h1)
      clear h1
      go_wp2
      go_ret
      rw [h2.out]
      exact ⟨rfl, rfl⟩
theorem fil_stop (T : Int) (zs l : List Int) (h : ¬ ((fil T zs l).length : Int) < T) : ∀ m, fil T zs (l ++ m) = fil T zs l := F.snoc_ind (by rw [List.append_nil]) (fun m i ih => by
  rw [← List.append_assoc, fil_snoc, ih, if_neg (fun e => h e.1)])
theorem fil_mem (T : Int) (zs : List Int) : ∀ l, ∀ i ∈ fil T zs l, i ∈ zs ∨ i ∈ l := F.snoc_ind (fun i hi => .inl (by simpa [fil] using hi)) (fun l j ih i hi => by
  rw [fil_snoc] at hi
  split at hi
  · rcases List.mem_append.1 hi with hi | hi
    · exact (ih i hi).imp id (fun h => List.mem_append.2 (.inl h))
    · exact .inr (List.mem_append.2 (.inr hi))
  · exact (ih i hi).imp id (fun h => List.mem_append.2 (.inl h)))
theorem fil_has (p : Pl) (zs : List Int) (k : Nat) : ((k + 1 : Nat) : Int) ∈ fil p.T zs ((allOf p).take k) ↔ ((k + 1 : Nat) : Int) ∈ zs := by
  constructor
  · intro h
    rcases fil_mem _ _ _ _ h with h | h
    · exact h
    · have := mem_all_take p k _ h; omega
  · intro h
    obtain ⟨r, hr⟩ := fil_pre p.T zs ((allOf p).take k)
    rw [hr]
    exact List.mem_append.2 (.inl h)
set_option maxRecDepth 100000 in
set_option maxHeartbeats 3200000 in
theorem rZeros14_c (p : Pl) (h : p.Ok) (v : Value) (zs : List Int) (w : World) (hv : Ri w v zs) (hl : zs.length ≤ 1000) :
   Calls Try.prog 193 #[planV p, v] w fun e w' => ∃ z, e = .returned z ∧ Oi w w' z (fil p.T zs (allOf p)) ∧ Below w.heap.size w w' := by
  have hN1 : Hid (p.N.toNat = p.N ∧ p.N ≤ 256) := Lib.hid (by have := h.t; have := h.l; have := h.tl; have := h.wn; have := h.nl; omega)
  have hp := Blk.new w (planC p) 33
  have hb0 := below_alloc (Below.refl w.heap.size w) (.cells (planC p) 33)
  have hL := lit_ownI (w0 := w.alloc (.cells (planC p) 33)) (W := w.alloc (.cells (planC p) 33)) [] #[] rfl 0 rfl (by decide) (Nat.le_refl _)
  have hB1 := below_alloc (Below.refl (w.alloc (.cells (planC p) 33)).heap.size (w.alloc (.cells (planC p) 33))) (.cells #[] 3)
  have hvx := hv.below hb0
  rw [show (w.alloc (.cells (planC p) 33)).heap.size = w.heap.size + 1 from World.size_alloc _ _] at hL
  have hv2 := hvx.below hB1
  go_enter Try.func193, Try.ntmps193
  go_wp2_with (at_builtin; refine app_many (enc := Value.int .i64) (w0 := w.alloc (.cells (planC p) 33)) rfl (.tmp 7) (.tmp 8) 36 3 (.int .i64 0) 8 rfl Try.underlying36 infoI rfl (by decide) _ [] zs _ rfl rfl hL hv2 hB1 ?hl ?_; (case hl => (simp; omega)); intro v1 w1 ho hb hg)
  rw [List.nil_append] at ho
  generalize w.alloc (.cells (planC p) 33) = wB at *
  have hPx := Lib.hid hp
  have hBx := Lib.hid hb0
  have hO := ho
  clear ho hg hL hB1 hv2 hvx hp hb0
  go_loopw [5, 6] (fun s i wr => ∃ k : Nat, k ≤ p.N.toNat ∧ i = .int .i64 ((k : Int) + 1) ∧ Oi wB wr s (fil p.T zs ((allOf p).take k)) ∧ Hid ((fil p.T zs ((allOf p).take k)).length ≤ 1000 + k) ∧ Below wB.heap.size wB wr) (fun _ i _ => p.N.toNat + 1 - (intOf i).toNat)
  case atStart => exact ⟨0, by omega, rfl, hO, Lib.hid (by simpa [fil] using hl), hb⟩
  case round =>
    clear hO hb
    obtain ⟨k, hk, rfl, hO, hlen, hb⟩ := hrel
    obtain ⟨c0, c1, c2, c3, c4, c5⟩ := cells6 (hPx.out.below hb)
    obtain ⟨A9, n9, rfl⟩ := rk_form hO.rk
    have u1 : IntKind.i64.wrap ((k : Int) + 1 + 1) = (k : Int) + 1 + 1 := wrapI _ (by have := hN1.out; omega) (by have := hN1.out; omega)
    by_cases hlt : k < p.N.toNat
    · have s1 : decide ((k : Int) + 1 ≤ p.N) = true := decide_eq_true (by have := hN1.out; omega)
      have hF := Lib.hid (fil_snoc p.T zs ((allOf p).take k) (((k + 1 : Nat) : Int)))
      have hS := Lib.hid (all_take_succ p k hlt)
      have hH := Lib.hid (fil_has p zs k)
      have hst := Lib.hid (fil_stop p.T zs ((allOf p).take k))
      generalize hout : fil p.T zs ((allOf p).take k) = out at *
      replace hout := Lib.hid hout
      have hlo : out.length ≤ 5000 := by have := hlen.out; have := hN1.out; omega
      by_cases t1 : (out.length : Int) < p.T
      · have t2 := decide_eq_true t1
        have t3 := Lib.hid t1
        clear t1
        by_cases hm : (((k + 1 : Nat) : Int)) ∈ out
        · have hm2 : Hid (decide ((k : Int) + 1 ∈ out) = true) := Lib.hid (decide_eq_true (by simpa using hm))
          have hf : Hid (fil p.T zs ((allOf p).take (k + 1)) = out) := Lib.hid (by rw [hS.out, hF.out, if_neg (fun e => e.2 (hH.out.1 hm))])
          clear hm hF hS hH
          go_wp2_with fail
          refine (rHas_c _ _ ((k : Int) + 1) _ hO.rk).mono ?_
          rintro e w_ ⟨rfl, rfl⟩
          rw [hm2.out]
          go_wp2
          exact ⟨⟨k + 1, by omega, by simp, by rw [hf.out]; exact hO, Lib.hid (by have := hlen.out; rw [hf.out]; omega), hb⟩, by simp [intOf]; try omega⟩
        · have hm2 : Hid (decide ((k : Int) + 1 ∈ out) = false) := Lib.hid (decide_eq_false (by simpa using hm))
          have hf : Hid (fil p.T zs ((allOf p).take (k + 1)) = out ++ [(k : Int) + 1]) := Lib.hid (by rw [hS.out, hF.out, if_pos ⟨t3.out, fun e => hm (hH.out.2 e)⟩]; simp)
          clear hm hF hS hH
          go_wp2_with fail
          refine (rHas_c _ _ ((k : Int) + 1) _ hO.rk).mono ?_
          rintro e w_ ⟨rfl, rfl⟩
          rw [hm2.out]
          go_wp2_with (at_builtin; refine app_int rfl (.tmp 27) (.tmp 29) rfl _ out ((k : Int) + 1) rfl rfl hO hb ?hl ?_; (case hl => omega); intro v1 w1 ho hb hg hn)
          exact ⟨⟨k + 1, by omega, by simp, by rw [hf.out]; exact ho, Lib.hid (by have := hlen.out; rw [hf.out, List.length_append, List.length_singleton]; omega), hb⟩, by simp [intOf]; try omega⟩
      · have t2 := decide_eq_false t1
        have hf : Hid (fil p.T zs (allOf p) = out) := Lib.hid (by
          have := hst.out (by omega) ((allOf p).drop k)
          rw [List.take_append_drop] at this
          exact this)
        clear t1 hF hS hH hst
        go_wp2
        go_ret
        rw [hf.out]
        exact ⟨_, rfl, hO.lower hBx.out, bt_ hBx.out hb⟩
    · obtain rfl : k = p.N.toNat := by omega
      have s1 : decide ((p.N.toNat : Int) + 1 ≤ p.N) = false := decide_eq_false (by have := hN1.out; omega)
      rw [List.take_of_length_le (by rw [all_len]; omega)] at hO ⊢
      go_wp2
      go_ret
      exact ⟨_, rfl, hO.lower hBx.out, bt_ hBx.out hb⟩
/-! ### Check -/
set_option maxRecDepth 100000 in
set_option maxHeartbeats 1600000 in
theorem rCheck14_no (p : Pl) (hi : p.In) (h : ¬ p.Ok) (v u : Value) (w : World) :
   Calls Try.prog 138 #[planV p, v, u] w fun e w' => e = .returned (.int .i64 1) ∧ Below w.heap.size w w' := by
  have HP := Blk.new w (planC p) 33
  have hB := below_alloc (Below.refl w.heap.size w) (.cells (planC p) 33)
  go_enter Try.func138, Try.ntmps138
  go_wp2_with fail
  refine (rRight_no p hi h _).mono ?_
  rintro e w1 ⟨rfl, h1⟩
  go_wp2
  go_ret
  exact ⟨rfl, bt_ hB h1⟩
set_option maxRecDepth 100000 in
set_option maxHeartbeats 3200000 in
theorem rCheck14_c (p : Pl) (h : p.Ok) (v u : Value) (d : List F) (zs : List Int) (w : World) (hv : Rb w v d) (hu : Ri w u zs) :
   Calls Try.prog 138 #[planV p, v, u] w fun e w' => e = .returned (.int .i64 (maE p d.length zs)) ∧ Below w.heap.size w w' := by
  have hpl : Hid (p.T ≤ 256 ∧ p.N ≤ 256) := Lib.hid (by have := h.t; have := h.l; have := h.tl; have := h.wn; have := h.nl; omega)
  have HP := Blk.new w (planC p) 33
  have hB := below_alloc (Below.refl w.heap.size w) (.cells (planC p) 33)
  obtain ⟨A0, c0', rfl, hc, hr⟩ := hv
  have hld := kb_len hr
  have hu := hu.below hB
  obtain ⟨A, c, rfl, hc', hr⟩ := hu
  have hlz := ri_len hr
  have hu : Ri _ (.slice A zs.length c) zs := ⟨A, c, rfl, hc', hr⟩
  go_enter Try.func138, Try.ntmps138
  go_wp2_with fail
  refine (rRight_yes p h _).mono ?_
  rintro e w1 ⟨rfl, h1⟩
  have HP := HP.below h1
  have hB := bt_ hB h1
  obtain ⟨c0, c1, c2, c3, c4, c5⟩ := cells6 HP
  have hu := hu.below h1
  have hr := rk_C hu
  clear h1
  by_cases g1 : (d.length : Int) = p.L
  · have t1 : ((d.length : Int) != p.L) = false := by rw [g1]; simp
    replace g1 := Lib.hid g1
    by_cases g2 : p.T < (zs.length : Int)
    · have hf : Hid (maE p d.length zs = 2) := Lib.hid (by
        unfold maE
        rw [if_neg (fun e => e g1.out), if_pos g2])
      have t2 : decide (p.T < (zs.length : Int)) = true := decide_eq_true g2
      go_wp2
      go_ret
      rw [hf.out]
      exact ⟨rfl, hB⟩
    · have t2 : decide (p.T < (zs.length : Int)) = false := decide_eq_false g2
      have hz6 : zs.length < 1000000 := by have := hpl.out; omega
      replace g2 := Lib.hid g2
      go_wp2_with fail
      go_loopw [7] (fun i wr => ∃ k : Nat, k ≤ zs.length ∧ i = .int .i64 k ∧ Hid ((zs.take k).any (bad0 p) = false) ∧ Below w1.heap.size w1 wr ∧ Below w.heap.size w wr) (fun i _ => zs.length - (intOf i).toNat)
      case atStart => exact ⟨0, by omega, rfl, Lib.hid (by simp), Below.refl _ _, hB⟩
      case round =>
        clear hB
        obtain ⟨k, hk, rfl, hn, hB1, hB⟩ := hrel
        by_cases hlt : k < zs.length
        · obtain ⟨ad, rfl, d0⟩ := ki_at hr k hlt
          have d0 := pw_cell_below hB1 d0
          have HP := HP.below hB1
          obtain ⟨c0, c1, c2, c3, c4, c5⟩ := cells6 HP
          have hm : Hid (zs.getD k 0 ∈ zs) := Lib.hid (by rw [List.getD_eq_getElem?_getD, List.getElem?_eq_getElem hlt]; exact List.getElem_mem hlt)
          have HS2 := Lib.hid (any_take_succ zs (bad0 p) 0 k hlt)
          generalize zs.getD k 0 = i at *
          by_cases hi : 1 ≤ i ∧ i ≤ p.N
          · have hd := Lib.hid (decide_eq_true hi)
            have hn2 : Hid ((zs.take (k + 1)).any (bad0 p) = false) := Lib.hid (by
              rw [HS2.out, hn.out]
              unfold bad0
              rw [hd.out]; rfl)
            clear hi
            go_wp2_with fail
            go_region_held3 (fun w' => w'.cell? ⟨w.heap.size, 0, none⟩ = some (.int .i64 p.N) ∧ w'.cell? ⟨w.heap.size, 1, none⟩ = some (.int .i64 p.T) ∧ w'.cell? ⟨w.heap.size, 2, none⟩ = some (.int .i64 p.L) ∧ w'.cell? ⟨w.heap.size, 3, none⟩ = some (.int .i64 p.W) ∧ w'.cell? ⟨w.heap.size, 4, none⟩ = some (.int .i64 p.S) ∧ w'.cell? ⟨w.heap.size, 5, none⟩ = some (.int .i64 p.R) ∧ w'.cell? (ad.add k) = some (.int .i64 i))
              (go_keep)
              (first
                | (go_at_call 69; refine (rIs_c p i _).mono ?_; rintro e w6 ⟨rfl, h6⟩; (repeat (first | replace h6 := buN h6 | replace h6 := bu h6)); have d0 := pw_cell_below h6 d0; have HP := HP.below h6; obtain ⟨c0, c1, c2, c3, c4, c5⟩ := cells6 HP; have hB1 := bt_ hB1 h6; have hB := bt_ hB h6; rw [hd.out])
                | fail)
            go_wp2
            exact ⟨⟨k + 1, by omega, by go_num, hn2, hB1, hB⟩, by simp [intOf]; try omega⟩
          · have hd := Lib.hid (decide_eq_false hi)
            have hb : Hid (maE p d.length zs = 2) := Lib.hid (by
              unfold maE
              rw [if_neg (fun e => e g1.out), if_neg (by have := g2.out; omega), if_pos]
              exact List.any_eq_true.2 ⟨i, hm.out, by unfold bad0; rw [hd.out]; simp⟩)
            clear hi
            go_wp2_with fail
            go_region_held3 (fun w' => w'.cell? ⟨w.heap.size, 0, none⟩ = some (.int .i64 p.N) ∧ w'.cell? ⟨w.heap.size, 1, none⟩ = some (.int .i64 p.T) ∧ w'.cell? ⟨w.heap.size, 2, none⟩ = some (.int .i64 p.L) ∧ w'.cell? ⟨w.heap.size, 3, none⟩ = some (.int .i64 p.W) ∧ w'.cell? ⟨w.heap.size, 4, none⟩ = some (.int .i64 p.S) ∧ w'.cell? ⟨w.heap.size, 5, none⟩ = some (.int .i64 p.R) ∧ w'.cell? (ad.add k) = some (.int .i64 i))
              (go_keep)
              (first
                | (go_at_call 69; refine (rIs_c p i _).mono ?_; rintro e w6 ⟨rfl, h6⟩; (repeat (first | replace h6 := buN h6 | replace h6 := bu h6)); have d0 := pw_cell_below h6 d0; have HP := HP.below h6; obtain ⟨c0, c1, c2, c3, c4, c5⟩ := cells6 HP; have hB1 := bt_ hB1 h6; have hB := bt_ hB h6; rw [hd.out])
                | fail)
            go_wp2
            go_ret
            rw [hb.out]
            exact ⟨rfl, hB⟩
        · obtain rfl : k = zs.length := by omega
          rw [List.take_length] at hn
          have hu := hu.below hB1
          clear hB1
          have hgood : Hid (∀ i ∈ zs, 1 ≤ i ∧ i ≤ 256) := Lib.hid (fun i hi => by
            have h6 : bad0 p i = false := by
              cases hb : bad0 p i with
              | false => rfl
              | true => have := List.any_eq_true.2 ⟨i, hi, hb⟩; rw [hn.out] at this; exact absurd this (by decide)
            unfold bad0 at h6
            simp only [Bool.not_eq_false', decide_eq_true_eq] at h6
            have := hpl.out.2
            omega)
          go_wp2_with fail
          refine (rPoints_c _ _ _ hu hz6).mono ?_
          rintro e w3 ⟨vP, rfl, sP, h3⟩
          have hB := bt_ hB h3
          clear h3 hu
          go_wp2_with fail
          refine (rUnlike_c _ _ _ sP.rk).mono ?_
          rintro e w4 ⟨rfl, h4⟩
          have hB := bd hB h4
          clear sP h4
          by_cases g3 : zs.Nodup
          · have e2 : Hid (decide ((zs.map point).Nodup) = true) := Lib.hid (decide_eq_true ((nodup_points hgood.out).2 g3))
            rw [e2.out]
            have hf : Hid (maE p d.length zs = 0) := Lib.hid (by
              unfold maE
              rw [if_neg (fun e => e g1.out), if_neg (by have := g2.out; omega), if_neg (by rw [hn.out]; simp), if_neg (fun h => h g3)])
            clear g3
            go_wp2
            go_ret
            rw [hf.out]
            exact ⟨rfl, hB⟩
          · have e2 : Hid (decide ((zs.map point).Nodup) = false) := Lib.hid (decide_eq_false (fun e => g3 ((nodup_points hgood.out).1 e)))
            rw [e2.out]
            have hf : Hid (maE p d.length zs = 5) := Lib.hid (by
              unfold maE
              rw [if_neg (fun e => e g1.out), if_neg (by have := g2.out; omega), if_neg (by rw [hn.out]; simp), if_pos g3])
            clear g3
            go_wp2
            go_ret
            rw [hf.out]
            exact ⟨rfl, hB⟩
  · have hf : Hid (maE p d.length zs = 3) := Lib.hid (by
      unfold maE
      rw [if_pos g1])
    have t1 : ((d.length : Int) != p.L) = true := bne_iff_ne.2 g1
    replace g1 := Lib.hid g1
    go_wp2
    go_ret
    rw [hf.out]
    exact ⟨rfl, hB⟩
end Go.Proofs.Ytijeabhfddaoaaa

/- The walks of the reference of layer 14: Shift. -/
namespace Go.Proofs.Ytijeabhfddaoaaa
set_option linter.unusedVariables false
open Go.RowKit Go.Proofs.YtijeabhfddaoaaaW.PrintWords Go.Proofs.Sh

set_option maxRecDepth 100000 in
set_option maxHeartbeats 3200000 in
theorem rShift14_c (p : Pl) (h : p.Ok) (hK : p.T + p.L < 255) (v u : Value) (d : List F) (zs : List Int) (w : World) (hv : Rb w v d) (hu : Ri w u zs) (ha : maE p d.length zs = 0) :
   Calls Try.prog 139 #[planV p, v, u] w fun e w' => ∃ z, e = .returned z ∧ Ob w w' z (shOf p d zs) ∧ Below w.heap.size w w' := by
  have hz := Lib.hid (ma_zero ha)
  have hl1 : zs.length ≤ 1000 := by have := hz.out.2.1; have := h.l; omega
  have hxl := Lib.hid (shXs_len p h zs hz.out.2.1)
  have hnd := Lib.hid (shXs_nodup p h zs hz.out.2.2.1 hz.out.2.2.2)
  have hfl := Lib.hid (fil_full p h zs hz.out.2.1)
  have hx : Hid (secretsAt p ++ (fil p.T zs (allOf p)).map point = shXs p zs) := Lib.hid rfl
  have hx2 : (shXs p zs).length ≤ 1000 := by have := hxl.out; omega
  have hfl2 : Hid ((fil p.T zs (allOf p)).length < 1000000) := Lib.hid (by have := hfl.out; have := h.l; omega)
  have hl8 : Hid ((secretsAt p).length + ((fil p.T zs (allOf p)).map point).length ≤ 1000000000) := Lib.hid (by rw [← List.length_append, hx.out]; omega)
  have hL1 : Hid ((shXs p zs).length = (szd d (shXs p zs).length).length) := Lib.hid (szd_len _ _).symm
  have hL2 : Hid (d.length ≤ (shXs p zs).length) := Lib.hid (by have := hxl.out; have := h.t; have := hz.out.1; omega)
  have hfin : Hid (F.nwt (shXs p zs) (szd d (shXs p zs).length) (shXs p zs).length = shOf p d zs) := Lib.hid (F.nwt_thr hnd.out (by have := hxl.out; omega))
  clear hxl hfl ha
  have HP := Blk.new w (planC p) 33
  have hB := below_alloc (Below.refl w.heap.size w) (.cells (planC p) 33)
  have hv := hv.below hB
  obtain ⟨Ad, cd, rfl, hcd, hrd⟩ := hv
  have hu := hu.below hB
  go_enter Try.func139, Try.ntmps139
  go_wp2_with fail
  generalize w.alloc (.cells (planC p) 33) = wB at *
  have hPx := Lib.hid HP
  have hBx := Lib.hid hB
  have hB := Below.refl wB.heap.size wB
  obtain ⟨c0, c1, c2, c3, c4, c5⟩ := cells6 HP
  go_region_held3 (fun w' => w'.cell? ⟨w.heap.size, 0, none⟩ = some (.int .i64 p.N) ∧ w'.cell? ⟨w.heap.size, 1, none⟩ = some (.int .i64 p.T) ∧ w'.cell? ⟨w.heap.size, 2, none⟩ = some (.int .i64 p.L) ∧ w'.cell? ⟨w.heap.size, 3, none⟩ = some (.int .i64 p.W) ∧ w'.cell? ⟨w.heap.size, 4, none⟩ = some (.int .i64 p.S) ∧ w'.cell? ⟨w.heap.size, 5, none⟩ = some (.int .i64 p.R))
    (go_keep)
    (first
    | (go_at_call 66; refine (rSecrets_c p h _).mono ?_; rintro e w6 ⟨vS, rfl, sS, h6⟩; replace sS := sS.lower (by first | exact hB | exact below_drew hB); (try replace h6 := bu h6); have hu := hu.below h6; (try replace h6 := bu h6); have HP := HP.below h6; obtain ⟨c0, c1, c2, c3, c4, c5⟩ := cells6 HP; have hB := bt_ hB h6)
    | (go_at_call 193; refine (rZeros14_c p h _ zs _ hu hl1).mono ?_; rintro e w6 ⟨vZ, rfl, sZ, h6⟩; have sS := sS.below h6; replace sZ := sZ.rk; (try replace h6 := bu h6); have HP := HP.below h6; obtain ⟨c0, c1, c2, c3, c4, c5⟩ := cells6 HP; have hB := bt_ hB h6)
    | (go_at_call 61; refine (rPoints_c _ _ _ sZ hfl2.out).mono ?_; rintro e w6 ⟨vP, rfl, sP, h6⟩; have sS := sS.below h6; replace sP := sP.rk; (try replace h6 := bu h6); have HP := HP.below h6; obtain ⟨c0, c1, c2, c3, c4, c5⟩ := cells6 HP; have hB := bt_ hB h6)
    | (refine step_app_yy (w0 := wB) (by rfl) (.tmp 10) (.tmp 14) (by rfl) _ _ _ _ (by rfl) (by rfl) sS sP hB hl8.out ?_; intro v8 w8 hO8 hB8 hg8; obtain ⟨c0, c1, c2, c3, c4, c5⟩ := cells6 (hPx.out.below hB8))
    | fail)
  rw [hx.out] at hO8
  have hrd := Kd.C_below hrd hB8
  obtain ⟨A8, c8, rfl⟩ := rk_form hO8.rk
  clear sS sP sZ hB hu hPx hg8
  have hL := lit_own (w0 := w8) (W := w8) [] #[] rfl 0 rfl (by decide) (Nat.le_refl _)
  have hB1 := below_alloc (Below.refl w8.heap.size w8) (.cells #[] 5)
  have hv2 : Rb (w8.alloc (.cells #[] 5)) (.slice Ad d.length cd) d := ⟨Ad, cd, rfl, hcd, Kd.C_below hrd hB1⟩
  have hd9 : d.length ≤ 5000 := Nat.le_trans hL2.out (by omega)
  go_wp2_with (at_builtin; refine app_many (enc := bV) (w0 := w8) rfl (.tmp 16) (.tmp 17) 40 5 (.int .u8 0) 1 rfl Try.underlying40 infoB rfl (by decide) _ [] d _ rfl rfl hL hv2 hB1 ?hl ?_; (case hl => (simp; omega)); intro v1 w1 ho hb hg)
  rw [List.nil_append] at ho
  have hO : Ob w8 w1 v1 (szd d d.length) := by rw [szd_self]; exact ho
  have hB := hb
  clear ho hb hg hL hB1 hv2
  go_wp2_with fail
  go_loopw [8] (fun s wr => ∃ n : Nat, d.length ≤ n ∧ n ≤ (shXs p zs).length ∧ (∃ A c, s = .slice A n c) ∧ Ob w8 wr s (szd d n) ∧ Below w8.heap.size w8 wr) (fun s _ => match s with | .slice _ n _ => (shXs p zs).length - n | _ => 0)
  case atStart =>
    obtain ⟨A9, n9, e9⟩ := rk_form hO.rk
    exact ⟨d.length, Nat.le_refl _, hL2.out, ⟨A9, n9, by rw [e9, szd_len]⟩, hO, hB⟩
  case round =>
    clear hO hB
    obtain ⟨n, hn1, hn2, ⟨A9, c9, rfl⟩, hO, hB⟩ := hrel
    by_cases hlt : n < (shXs p zs).length
    · have hS : Hid (szd d (n + 1) = szd d n ++ [0]) := Lib.hid (by rw [szd_snoc, List.getD_eq_getElem?_getD, List.getElem?_eq_none hn1]; rfl)
      have hl9 : Hid ((szd d n).length = n) := Lib.hid (szd_len _ _)
      have s1 : decide ((n : Int) < ((shXs p zs).length : Int)) = true := decide_eq_true (by omega)
      have hn3 : (szd d n).length ≤ 1000 := by rw [hl9.out]; omega
      go_wp2_with (at_builtin; refine app_one (enc := bV) rfl (.tmp 24) (.tmp 25) 40 5 (.int .u8 0) 1 rfl Try.underlying40 infoB rfl (by decide) _ _ (0 : F) rfl rfl _ (bV_eq ?hc) hO hB ?hl ?_; (case hc => (first | exact rfl | exact rfl)); (case hl => (first | (simp; omega) | omega)); intro v1 w1 ho hb hg)
      rw [← hS.out] at ho
      obtain ⟨A7, c7, rfl⟩ := rk_form ho.rk
      rw [szd_len] at ho ⊢
      exact ⟨⟨n + 1, by omega, by omega, ⟨A7, c7, rfl⟩, ho, hb⟩, by simp; omega⟩
    · obtain rfl : n = (shXs p zs).length := by omega
      have sX := hO8.rk.below hB
      go_wp2_with fail
      refine (rThrough_c _ _ (shXs p zs) (szd d (shXs p zs).length) _ sX hO.rk hL1.out (by omega)).mono ?_
      rintro e w9 ⟨z, rfl, oz, h9⟩
      rw [hfin.out] at oz
      go_wp2
      go_ret
      exact ⟨_, rfl, (oz.lower hB).lower hB8 |>.lower hBx.out, bt_ hBx.out (bt_ hB8 (bt_ hB h9))⟩
end Go.Proofs.Ytijeabhfddaoaaa

/- The walks of the reference of layer 14: Over, Sized, Deal, Zero, Blind. -/
namespace Go.Proofs.Ytijeabhfddaoaaa
set_option linter.unusedVariables false
open Go.RowKit Go.Proofs.YtijeabhfddaoaaaW.PrintWords Go.Proofs.Sh

theorem ob_grown {w0 w w1 : World} {g n c : Nat} {u : Option Nat} {l : List F} (h : Ob w0 w (.slice (some ⟨g, 0, none⟩) n c) l) (hg : w.grownBy w1 u) (hne : u ≠ some g) : Ob w0 w1 (.slice (some ⟨g, 0, none⟩) n c) l :=
  b_own (own_other (own_b h) hg (.inr (by simpa [Value.ownBlock] using fun e => hne e.symm)))
def szTo (l : List F) (n k : Nat) : List F := (List.range n).map fun i => if i < k then l.getD i 0 else 0
theorem szTo_len (l : List F) (n k : Nat) : (szTo l n k).length = n := by simp [szTo]
theorem szTo_at (l : List F) (n k i : Nat) (h : i < n) : (szTo l n k).getD i 0 = if i < k then l.getD i 0 else 0 := by simp [szTo, List.getD_eq_getElem?_getD, h]
theorem szTo_0 (l : List F) (n : Nat) : szTo l n 0 = List.replicate n 0 := by
  apply F.ext_at (by rw [szTo_len, List.length_replicate])
  intro j hj
  rw [szTo_len] at hj
  show (szTo l n 0).getD j 0 = _
  rw [szTo_at _ _ _ _ hj, if_neg (by omega)]
  simp [F.at_, List.getD_eq_getElem?_getD, hj]
theorem szTo_all (l : List F) (n : Nat) : szTo l n n = szd l n := by
  unfold szTo szd
  exact List.map_congr_left fun i hi => if_pos (List.mem_range.1 hi)
theorem szTo_set (l : List F) (n k : Nat) (h : k < n) : (szTo l n k).set k (F.at_ l k) = szTo l n (k + 1) := by
  apply F.ext_at (by rw [List.length_set, szTo_len, szTo_len])
  intro t ht
  rw [List.length_set, szTo_len] at ht
  rw [F.at_set _ _ _ (by rw [szTo_len]; exact h)]
  show (if t = k then _ else (szTo l n k).getD t 0) = (szTo l n (k + 1)).getD t 0
  rw [szTo_at _ _ _ _ ht, szTo_at _ _ _ _ ht]
  by_cases e : t = k
  · rw [if_pos e, if_pos (by omega), e]
  · rw [if_neg e]
    by_cases g1 : t < k
    · rw [if_pos g1, if_pos (by omega)]
    · rw [if_neg g1, if_neg (by omega)]
set_option maxRecDepth 100000 in
set_option maxHeartbeats 1600000 in
theorem rSized_c (v : Value) (l : List F) (n : Int) (w : World) (hv : Rb w v l) (h0 : 1 ≤ n) (hn : n ≤ 1000000) :
   Calls Try.prog 196 #[v, .int .i64 n] w fun e w' => ∃ z, e = .returned z ∧ Ob w w' z (szd l n.toNat) ∧ Below w.heap.size w w' := by
  obtain ⟨m, rfl⟩ : ∃ m : Nat, n = (m : Int) := ⟨n.toNat, by omega⟩
  have hR := Lib.hid (szTo_all l m)
  have hB := Below.refl w.heap.size w
  obtain ⟨A, c, rfl⟩ := rk_form hv
  go_enter Try.func196, Try.ntmps196
  go_wp2_with ((with_reducible refine gate_dst (N := 8) rfl ?_); refine mk_len kb rfl (N := 8) rfl 40 5 _ _ rfl _ rfl rfl Try.underlying40 (.int .u8 0) 1 infoB rfl Nat.one_pos (by decide) (0 : F) rfl ?h0 ?hl hB ?_; (case h0 => omega); (case hl => omega); intro v1 w1 ho hb hg)
  have hO := ho
  have hB := hb
  clear ho hb hg
  (try rw [Int.toNat_natCast] at hO)
  rw [← szTo_0 l m] at hO
  obtain ⟨g, cap, rfl, hg1, hg2⟩ := Ob.form hO (by rw [szTo_len]; omega)
  rw [szTo_len] at hO ⊢
  go_loopw [6] (fun i wr => ∃ k : Nat, k ≤ m ∧ i = .int .i64 k ∧ Ob w wr (.slice (some ⟨g, 0, none⟩) m cap) (szTo l m k) ∧ Below w.heap.size w wr) (fun i _ => m - (intOf i).toNat)
  case atStart => exact ⟨0, by omega, rfl, hO, hB⟩
  case round =>
    clear hO hB hg2
    obtain ⟨k, hk, rfl, hO, hB⟩ := hrel
    by_cases hlt : k < m
    · have hv := hv.below hB
      obtain ⟨c2, f2⟩ := hO.at k (by rw [szTo_len]; exact hlt)
      have hset := Lib.hid (szTo_set l m k hlt)
      have hs2 := fun x => Lib.hid (hO.set k x)
      obtain ⟨x, hx⟩ : ∃ x, x = F.at_ l k := ⟨_, rfl⟩
      rw [← hx] at hset
      replace hx := Lib.hid hx
      generalize (szTo l m k).getD k 0 = y at *
      go_wp2_with fail
      refine (rAt_c _ l _ k x rfl (by omega) hx.out.symm _ hv).mono ?_
      rintro e w_ ⟨rfl, rfl⟩
      go_wp2
      obtain ⟨hO2, hgr⟩ := (hs2 x).out
      rw [hset.out] at hO2
      exact ⟨⟨k + 1, by omega, by go_num, hO2, hB.grown hgr hB.size (fun k hk => by injection hk with hk; omega)⟩, by simp [intOf]; try omega⟩
    · obtain rfl : k = m := by omega
      go_wp2
      go_ret
      exact ⟨_, rfl, by rw [Int.toNat_natCast, ← hR.out]; exact hO, hB⟩
/-! ### Over -/
set_option maxRecDepth 100000 in
set_option maxHeartbeats 3200000 in
theorem rOver_few (v u : Value) (p q : List F) (w : World) (hv : Rb w v p) (hu : Rb w u q) (b1 : p.length ≤ 256) (hn : p.length < q.length) :
   Calls Try.prog 197 #[v, u] w fun e w' => e = .returned (.slice none 0 0) ∧ Below w.heap.size w w' := by
  have hL := lit_own (w0 := w) (W := w) [] #[] rfl 0 rfl (by decide) (Nat.le_refl _)
  have hB := below_alloc (Below.refl w.heap.size w) (.cells #[] 5)
  have hv2 := hv.below hB
  obtain ⟨A, c, rfl⟩ := rk_form hv
  obtain ⟨B, d, rfl⟩ := rk_form hu
  have hql := kb_len (rk_C hu)
  have t1 : decide ((p.length : Int) - (q.length : Int) + 1 < 1) = true := decide_eq_true (by omega)
  go_enter Try.func197, Try.ntmps197
  go_wp2_with (at_builtin; refine app_many (enc := bV) rfl (.tmp 11) (.tmp 12) 40 5 (.int .u8 0) 1 rfl Try.underlying40 infoB rfl (by decide) _ [] p _ rfl rfl hL hv2 hB ?hl ?_; (case hl => (simp; omega)); intro v1 w1 ho hb hg)
  go_ret
  exact ⟨rfl, hb⟩
set_option maxRecDepth 100000 in
set_option maxHeartbeats 3200000 in
theorem rOver_c (v u : Value) (p xs : List F) (w : World) (hv : Rb w v p) (hu : Rb w u (F.rt xs)) (b1 : p.length ≤ 256) :
   Calls Try.prog 197 #[v, u] w fun e w' => ∃ z, e = .returned z ∧ Ob w w' z (qts xs p) ∧ Below w.heap.size w w' := by
  by_cases hn : p.length < (F.rt xs).length
  · refine (rOver_few v u p _ w hv hu b1 hn).mono ?_
    rintro e w' ⟨rfl, hB⟩
    have : qts xs p = [] := List.eq_nil_of_length_eq_zero (by rw [qts_len]; rw [F.rt_len] at hn; omega)
    rw [this]
    exact ⟨_, rfl, Own.nil _ _ _ _, hB⟩
  have hxl : xs.length + 1 ≤ p.length := by rw [F.rt_len] at hn; omega
  obtain ⟨m, hm⟩ : ∃ m, m = xs.length := ⟨_, rfl⟩
  obtain ⟨n, hnn⟩ : ∃ n, n = p.length - xs.length := ⟨_, rfl⟩
  have htop := Lib.hid (fun j (hj : j < n) => lrest_qts p xs b1 (by omega) j (by omega))
  have hgl : Hid ((qts xs p).length = n) := Lib.hid (by rw [qts_len]; exact hnn.symm)
  have hql : (F.rt xs).length = m + 1 := by rw [F.rt_len, hm]
  rw [← hnn] at htop
  rw [hql] at htop
  have hpl : p.length = n + m := by omega
  have hn1 : 1 ≤ n := by omega
  have hnm : n + m ≤ 256 := by omega
  clear hm hnn hxl hn
  generalize F.rt xs = q at *
  generalize qts xs p = G at *
  have hL := lit_own (w0 := w) (W := w) [] #[] rfl 0 rfl (by decide) (Nat.le_refl _)
  have hB := below_alloc (Below.refl w.heap.size w) (.cells #[] 5)
  have hv2 := hv.below hB
  obtain ⟨A, c, rfl⟩ := rk_form hv
  obtain ⟨B, d, rfl⟩ := rk_form hu
  rw [hpl] at hv hv2 ⊢
  rw [hql] at hu ⊢
  have t1 : decide (((n + m : Nat) : Int) - ((m + 1 : Nat) : Int) + 1 < 1) = false := decide_eq_false (by omega)
  have hap : ([] : List F).length + p.length ≤ 140737488355328 := by simp; omega
  have hnil : ([] : List F) ++ p = p := List.nil_append p
  replace hql := Lib.hid hql
  replace hpl := Lib.hid hpl
  go_enter Try.func197, Try.ntmps197
  go_wp2_with (first | (at_builtin; refine app_many (enc := bV) rfl (.tmp 11) (.tmp 12) 40 5 (.int .u8 0) 1 rfl Try.underlying40 infoB rfl (by decide) _ [] p _ rfl rfl hL hv2 hB ?hl ?_; (case hl => omega); intro v1 wa ho hb hg) | ((with_reducible refine gate_dst (N := 23) rfl ?_); refine halt ?_) | fail)
  refine ⟨?_⟩
  rw [hnil] at ho
  obtain ⟨g1, cap1, rfl, _, hg1⟩ := Ob.form (w0 := w) ho (by have := hpl.out; omega)
  rw [hpl.out] at ho ⊢
  replace ho : Ob w wa _ p := ho
  have hP := ho
  have hBw := hb
  clear hL hv2 ho hb hg hnil hap hB
  go_wp2_with ((with_reducible refine gate_dst (N := 23) rfl ?_); refine mk_len kb rfl (N := 23) rfl 40 5 _ _ rfl _ rfl rfl Try.underlying40 (.int .u8 0) 1 infoB rfl Nat.one_pos (by decide) (0 : F) rfl ?h0 ?hl (Below.refl wa.heap.size wa) ?_; (case h0 => omega); (case hl => omega); intro v1 w1 ho hb hg)
  have hO : Ob wa _ _ _ := ho
  have hb1 := hb
  rw [show ((n : Int) + (m : Int) - ((m : Int) + 1) + 1).toNat = n from by omega] at hO
  have hgs := gTo_start G
  rw [hgl.out] at hgs
  rw [← hgs] at hO
  have hgs := Lib.hid hgs
  obtain ⟨g2, cap2, rfl, hg2, _⟩ := Ob.form hO (by rw [gTo_len, hgl.out]; omega)
  rw [gTo_len, hgl.out] at hO ⊢
  have hne : Hid (g1 ≠ g2) := Lib.hid (by omega)
  have hP := ob_grown hP hg (by simp)
  have hO := hO.lower hBw
  have hB := bt_ hBw hb1
  have hge : Hid (w.heap.size ≤ g2) := Lib.hid (by have := hBw.size; omega)
  have hge1 : Hid (w.heap.size ≤ g1) := Lib.hid (by assumption)
  clear ho hb hg hb1 hBw hg1 hg2 hgs
  go_wp2_with fail
  go_loopw [8, 9, 10] (fun i _ _ wr => ∃ (k : Nat) (z : Int), k ≤ n ∧ i = .int .i64 z ∧ z = (k : Int) - 1 ∧ Ob w wr (.slice (some ⟨g1, 0, none⟩) (n + m) cap1) (lrest p q n (n - k)) ∧ Ob w wr (.slice (some ⟨g2, 0, none⟩) n cap2) (gTo G k) ∧ Below w.heap.size w wr) (fun i _ _ _ => (intOf i + 1).toNat)
  case atStart => exact ⟨n, _, by omega, rfl, by omega, by rw [Nat.sub_self]; exact hP, hO, hB⟩
  case round =>
    clear hO hB hP
    obtain ⟨k, z, hk, rfl, hz, hP, hO, hB⟩ := hrel
    cases k with
    | zero =>
      obtain rfl : z = -1 := hz
      go_wp2
      go_ret
      rw [gTo_0] at hO
      exact ⟨_, rfl, hO, hB⟩
    | succ t =>
      obtain rfl : z = (t : Int) := by omega
      clear hz
      obtain ⟨R, hR⟩ : ∃ R, R = lrest p q n (n - (t + 1)) := ⟨_, rfl⟩
      obtain ⟨x, hx⟩ : ∃ x, x = F.at_ G t := ⟨_, rfl⟩
      have hRl : R.length = n + m := by rw [hR, lrest_len, hpl.out]
      have hc : R.getD (t + m) 0 = x := by
        have := htop.out (n - (t + 1)) (by omega)
        rw [show n - 1 - (n - (t + 1)) = t by omega, show m + 1 - 1 = m by omega] at this
        rw [hR, hx]
        exact this
      have hnext : Hid (lpart q t x (m + 1) R = lrest p q n (n - t)) := Lib.hid (by
        rw [show n - t = (n - (t + 1)) + 1 by omega, lrest, show n - 1 - (n - (t + 1)) = t by omega, hql.out, ← hR, show m + 1 - 1 = m by omega]
        show _ = lpart q t (R.getD (t + m) 0) (m + 1) R
        rw [hc])
      obtain ⟨s, hs⟩ : ∃ s, s = t + m := ⟨_, rfl⟩
      rw [← hs] at hc
      rw [← hR] at hP
      obtain ⟨c2, f2⟩ := hP.at s (by omega)
      rw [hc] at c2
      obtain ⟨c3, f3⟩ := hO.at t (by rw [gTo_len, hgl.out]; omega)
      obtain ⟨hO2, hgr⟩ := hO.set t x
      have hst : (gTo G (t + 1)).set t x = gTo G t := by rw [hx]; exact gTo_set G t (by rw [hgl.out]; omega)
      rw [hst] at hO2
      have hP2 := ob_grown hP hgr (by have := hne.out; simpa using fun e => this e.symm)
      have hB2 := hB.grown hgr hB.size (fun k hk => by injection hk with hk; have := hge.out; omega)
      replace hP2 := Lib.hid hP2
      replace hO2 := Lib.hid hO2
      replace hB2 := Lib.hid hB2
      have hRl := Lib.hid hRl
      have htn : t < n := by omega
      have htz : (t : Int) < (n : Int) := by omega
      have u1 : IntKind.i64.wrap ((t : Int) + ((m : Int) + 1)) = (s : Int) + 1 := by rw [wrapI _ (by omega) (by omega)]; omega
      have hsn : (s : Int) < (n : Int) + (m : Int) := by omega
      clear hst hgr hc hs hR hx hP hO hB htop
      generalize (gTo G (t + 1)).getD t 0 = y0 at *
      go_wp2_with fail
      go_loopw [10] (fun i wr => ∃ k : Nat, k ≤ m + 1 ∧ i = .int .i64 k ∧ Ob w wr (.slice (some ⟨g1, 0, none⟩) (n + m) cap1) (lpart q t x k R) ∧ Ob w wr (.slice (some ⟨g2, 0, none⟩) n cap2) (gTo G t) ∧ Below w.heap.size w wr) (fun i _ => m + 1 - (intOf i).toNat)
      case atStart => exact ⟨0, by omega, rfl, by rw [lpart_0]; exact hP2.out, hO2.out, hB2.out⟩
      case round =>
        clear c2 f2 c3 f3
        obtain ⟨k2, hk2, rfl, hP, hO, hB⟩ := hrel
        by_cases hlt : k2 < m + 1
        · obtain ⟨ad, rfl, d0⟩ := kb_at (rk_C (hu.below hB)) k2 (by rw [hql.out]; exact hlt)
          obtain ⟨j2, hj2⟩ : ∃ j2, j2 = t + k2 := ⟨_, rfl⟩
          have hset := lpart_set q t x k2 R (by rw [hRl.out]; omega)
          rw [← hj2] at hset
          obtain ⟨c2, f2⟩ := hP.at j2 (by rw [lpart_len, hRl.out]; omega)
          have u2 : IntKind.i64.wrap ((t : Int) + (k2 : Int)) = (j2 : Int) := by rw [wrapI _ (by omega) (by omega)]; omega
          have hjn : (j2 : Int) < (n : Int) + (m : Int) := by omega
          have hset2 : (lpart q t x k2 R).set j2 ((lpart q t x k2 R).getD j2 0 + x * q.getD k2 0) = lpart q t x (k2 + 1) R := hset
          have hsetw := fun W2 (h : Ob w W2 (.slice (some ⟨g1, 0, none⟩) (n + m) cap1) (lpart q t x k2 R)) z => h.set j2 z
          generalize hy : (lpart q t x k2 R).getD j2 0 = y at *
          generalize q.getD k2 0 = b' at *
          have X1 := xor8 y (x * b')
          replace hset2 := Lib.hid hset2
          replace hsetw := Lib.hid hsetw
          clear hset hj2 hy
          go_wp2_with fail
          have hD : Drawn0 wr wr := Drawn0.refl _
          go_region_law (first
            | (go_simp; go_at_call 41; refine (rMul_c x b' _ _ _ rfl rfl).mono ?_; rintro e w6 ⟨rfl, rfl⟩)
            | fail)
          all_goals go_wp2
          all_goals
            have hP1 := hP.below (below_drew (Below.refl _ _))
            have hO1 := hO.below (below_drew (Below.refl _ _))
            have hB1 := below_drew hB
            obtain ⟨hP2, hgr⟩ := hsetw.out _ hP1 (y + x * b')
            rw [hset2.out] at hP2
            exact ⟨⟨k2 + 1, by omega, by go_num, hP2, ob_grown hO1 hgr (by have := hne.out; simpa using this), hB1.grown hgr hB1.size (fun k hk => by injection hk with hk; have := hge1.out; omega)⟩, by simp [intOf]; try omega⟩
        · obtain rfl : k2 = m + 1 := by omega
          rw [hnext.out] at hP
          go_wp2
          exact ⟨⟨t, _, by omega, rfl, by go_num, hP, hO, hB⟩, by simp [intOf]; try omega⟩
/-! ### Deal, Zero, Blind -/
set_option maxRecDepth 100000 in
set_option maxHeartbeats 3200000 in
theorem rZero14_c (p : Pl) (h : p.Ok) (v : Value) (s : List F) (w : World) (hs : Rb w v s) (b1 : s.length ≤ 256) :
   Calls Try.prog 146 #[planV p, v] w fun e w' => ∃ z, e = .returned z ∧ Ob w w' z (zeroM p s) ∧ Below w.heap.size w w' := by
  have hT : Hid (1 ≤ p.T ∧ p.T ≤ 1000000) := Lib.hid (by have := h.t; have := h.l; have := h.tl; have := h.wn; have := h.nl; omega)
  have hL : Hid ((secretsAt p).length ≤ 100000) := Lib.hid (by rw [secrets_len]; have := h.t; have := h.tl; have := h.wn; have := h.nl; omega)
  have hR : Hid (szd (qts (secretsAt p) s) p.T.toNat = zeroM p s) := Lib.hid rfl
  have HP := Blk.new w (planC p) 33
  have hB := below_alloc (Below.refl w.heap.size w) (.cells (planC p) 33)
  have hs := hs.below hB
  obtain ⟨c0, c1, c2, c3, c4, c5⟩ := cells6 HP
  go_enter Try.func146, Try.ntmps146
  go_wp2_with fail
  generalize w.alloc (.cells (planC p) 33) = w1 at *
  go_region_held3 (fun w' => w'.cell? ⟨w.heap.size, 0, none⟩ = some (.int .i64 p.N) ∧ w'.cell? ⟨w.heap.size, 1, none⟩ = some (.int .i64 p.T) ∧ w'.cell? ⟨w.heap.size, 2, none⟩ = some (.int .i64 p.L) ∧ w'.cell? ⟨w.heap.size, 3, none⟩ = some (.int .i64 p.W) ∧ w'.cell? ⟨w.heap.size, 4, none⟩ = some (.int .i64 p.S) ∧ w'.cell? ⟨w.heap.size, 5, none⟩ = some (.int .i64 p.R))
    (go_keep)
    (first
    | (go_at_call 66; refine (rSecrets_c p h _).mono ?_; rintro e w6 ⟨vS, rfl, sS, h6⟩; (repeat (first | replace h6 := ba h6 | replace h6 := buN h6 | replace h6 := bu h6)); have hs := hs.below h6; replace sS := sS.rk; (try replace h6 := bu h6); have HP := HP.below h6; obtain ⟨c0, c1, c2, c3, c4, c5⟩ := cells6 HP; have hB := bt_ hB h6)
    | (go_at_call 81; refine (rRoot_c _ (secretsAt p) _ sS hL.out).mono ?_; rintro e w6 ⟨vR, rfl, sR, h6⟩; (repeat (first | replace h6 := ba h6 | replace h6 := buN h6 | replace h6 := bu h6)); have hs := hs.below h6; replace sR := sR.rk; (try replace h6 := bu h6); have HP := HP.below h6; obtain ⟨c0, c1, c2, c3, c4, c5⟩ := cells6 HP; have hB := bt_ hB h6)
    | (go_at_call 197; refine (rOver_c _ _ s (secretsAt p) _ hs sR b1).mono ?_; rintro e w6 ⟨vQ, rfl, sQ, h6⟩; (repeat (first | replace h6 := ba h6 | replace h6 := buN h6 | replace h6 := bu h6)); replace sQ := sQ.rk; (try replace h6 := bu h6); have HP := HP.below h6; obtain ⟨c0, c1, c2, c3, c4, c5⟩ := cells6 HP; have hB := bt_ hB h6)
    | (go_at_call 196; refine (rSized_c _ _ p.T _ sQ hT.out.1 hT.out.2).mono ?_; rintro e w6 ⟨vZ, rfl, sZ, h6⟩; (have hB9 := hB); (repeat (first | replace h6 := ba h6 | replace h6 := buN h6 | replace h6 := bu h6)); (try replace h6 := bu h6); have HP := HP.below h6; obtain ⟨c0, c1, c2, c3, c4, c5⟩ := cells6 HP; have hB := bt_ hB h6)
    | fail)
  go_wp2
  go_ret
  exact ⟨_, rfl, by rw [← hR.out]; exact sZ.lower hB9, hB⟩
set_option maxRecDepth 100000 in
set_option maxHeartbeats 3200000 in
theorem rDeal14_c (p : Pl) (h : p.Ok) (hK : p.L < 255) (v u : Value) (d s : List F) (w : World) (hd : Rb w v d) (hs : Rb w u s) (b1 : s.length ≤ 256) :
   Calls Try.prog 145 #[planV p, v, u] w fun e w' => ∃ z, e = .returned z ∧ Ob w w' z (dealM p d s) ∧ Below w.heap.size w w' := by
  have hT : Hid (1 ≤ p.T ∧ p.T ≤ 1000000) := Lib.hid (by have := h.t; have := h.l; have := h.tl; have := h.wn; have := h.nl; omega)
  have hL : Hid (1 ≤ (secretsAt p).length ∧ (secretsAt p).length < 255) := Lib.hid (by rw [secrets_len]; have := h.l; omega)
  have hR : Hid (szd (qts (secretsAt p) (F.padd s (F.thr (secretsAt p) (szd d (secretsAt p).length) (secretsAt p).length))) p.T.toNat = dealM p d s) := Lib.hid rfl
  have hsz : Hid ((secretsAt p).length = (szd d (secretsAt p).length).length) := Lib.hid (szd_len _ _).symm
  have hnt := Lib.hid (F.nwt_thr (ys := szd d (secretsAt p).length) (secrets_nodup p h) hL.out.2)
  have htl : Hid ((F.thr (secretsAt p) (szd d (secretsAt p).length) (secretsAt p).length).length ≤ 1000000) := Lib.hid (by rw [F.thr_len]; have := hL.out; omega)
  have hpl : Hid ((F.padd s (F.thr (secretsAt p) (szd d (secretsAt p).length) (secretsAt p).length)).length ≤ 256) := Lib.hid (by rw [F.padd_len, F.thr_len]; have := hL.out; omega)
  have HP := Blk.new w (planC p) 33
  have hB := below_alloc (Below.refl w.heap.size w) (.cells (planC p) 33)
  have hs := hs.below hB
  have hd := hd.below hB
  obtain ⟨c0, c1, c2, c3, c4, c5⟩ := cells6 HP
  go_enter Try.func145, Try.ntmps145
  go_wp2_with fail
  refine (rSecrets_c p h _).mono ?_
  rintro e w1 ⟨vS, rfl, sS, h1⟩
  have HP := HP.below h1
  have hB := bt_ hB h1
  obtain ⟨c0, c1, c2, c3, c4, c5⟩ := cells6 HP
  have hd := hd.below h1
  have hs := hs.below h1
  clear h1
  replace sS := sS.rk
  obtain ⟨AS, nS, rfl⟩ := rk_form sS
  have hB0 := hB
  clear hB
  generalize hxs : secretsAt p = xs at *
  replace hxs := Lib.hid hxs
  go_wp2_with fail
  refine wp_region_say [(isB s), (isB xs), (isB d), (isB xs), (isV (.int .i64 (xs.length : Int))), (isB (szd d xs.length)), (isB (F.thr xs (szd d xs.length) xs.length)), (isB (F.padd s (F.thr xs (szd d xs.length) xs.length))), (isB xs), (isB (F.rt xs)), (isB (qts xs (F.padd s (F.thr xs (szd d xs.length) xs.length)))), (isV (.pointer (some ⟨w.heap.size, 1, none⟩))), (isV (.int .i64 p.T)), (isO w (dealM p d s)), (isO w (dealM p d s))] [(0, some 10), (1, some 11), (2, some 12), (3, some 13), (4, some 14), (5, some 15), (6, some 16), (7, some 17), (8, some 18), (9, some 19), (10, some 20), (11, some 21), (12, some 22), (13, some 23), (14, some 6)] (by kernel_rfl) (by kernel_rfl) (by kernel_rfl) ⟨last_B _, last_B _, last_B _, last_B _, last_V _, last_B _, last_B _, last_B _, last_B _, last_B _, last_B _, last_V _, last_V _, last_O _ _, last_O _ _, trivial⟩ ⟨?s0, ?s1, ?s2, ?s3, ?s4, ?s5, ?s6, ?s7, ?s8, ?s9, ?s10, ?s11, ?s12, ?s13, ?s14, trivial⟩ ?hQ
  case s0 =>
    refine famStep_of [] (by kernel_rfl) ?_
    intro W hB K hK
    simp only [Act.put, List.setIfInBounds_toArray, List.set_cons_zero, List.set_cons_succ] at hK ⊢
    obtain ⟨c0, c1, c2, c3, c4, c5⟩ := cells6 (HP.below hB)
    go_simp
    exact hK _ _ (hs.below hB) (Below.refl _ _)
  case s1 =>
    refine famStep_of [] (by kernel_rfl) ?_
    intro W hB K hK
    simp only [Act.put, List.setIfInBounds_toArray, List.set_cons_zero, List.set_cons_succ] at hK ⊢
    obtain ⟨c0, c1, c2, c3, c4, c5⟩ := cells6 (HP.below hB)
    go_simp
    exact hK _ _ (sS.below hB) (Below.refl _ _)
  case s2 =>
    refine famStep_of [] (by kernel_rfl) ?_
    intro W hB K hK
    simp only [Act.put, List.setIfInBounds_toArray, List.set_cons_zero, List.set_cons_succ] at hK ⊢
    obtain ⟨c0, c1, c2, c3, c4, c5⟩ := cells6 (HP.below hB)
    go_simp
    exact hK _ _ (hd.below hB) (Below.refl _ _)
  case s3 =>
    refine famStep_of [] (by kernel_rfl) ?_
    intro W hB K hK
    simp only [Act.put, List.setIfInBounds_toArray, List.set_cons_zero, List.set_cons_succ] at hK ⊢
    obtain ⟨c0, c1, c2, c3, c4, c5⟩ := cells6 (HP.below hB)
    go_simp
    exact hK _ _ (sS.below hB) (Below.refl _ _)
  case s4 =>
    refine famStep_of [(3, some 13)] (by kernel_rfl) ?_
    intro W hB v3 h3 K hK
    replace h3 : Rb W v3 xs := h3
    simp only [Act.put, List.setIfInBounds_toArray, List.set_cons_zero, List.set_cons_succ] at hK ⊢
    obtain ⟨c0, c1, c2, c3, c4, c5⟩ := cells6 (HP.below hB)
    obtain ⟨A3, n3, rfl⟩ := rk_form h3; go_simp; exact hK _ _ rfl (Below.refl _ _)
  case s5 =>
    refine famStep_of [(2, some 12), (4, some 14)] (by kernel_rfl) ?_
    intro W hB v2 h2 v4 h4 K hK
    replace h2 : Rb W v2 d := h2
    obtain rfl : v4 = (.int .i64 (xs.length : Int)) := h4
    simp only [Act.put, List.setIfInBounds_toArray, List.set_cons_zero, List.set_cons_succ] at hK ⊢
    obtain ⟨c0, c1, c2, c3, c4, c5⟩ := cells6 (HP.below hB)
    go_simp
    go_at_call 196; refine (rSized_c _ d (xs.length : Int) _ h2 (by have := hL.out.1; omega) (by have := hL.out.2; omega)).mono ?_; rintro e w6 ⟨v9, rfl, sD, h6⟩; replace sD := sD.rk; rw [Int.toNat_natCast] at sD; exact hK _ _ sD h6
  case s6 =>
    refine famStep_of [(1, some 11), (5, some 15)] (by kernel_rfl) ?_
    intro W hB v1 h1 v5 h5 K hK
    replace h1 : Rb W v1 xs := h1
    replace h5 : Rb W v5 (szd d xs.length) := h5
    simp only [Act.put, List.setIfInBounds_toArray, List.set_cons_zero, List.set_cons_succ] at hK ⊢
    obtain ⟨c0, c1, c2, c3, c4, c5⟩ := cells6 (HP.below hB)
    go_simp
    go_at_call 120; refine (rThrough_c _ _ xs (szd d xs.length) _ h1 h5 hsz.out (by have := hL.out.2; omega)).mono ?_; rintro e w6 ⟨v9, rfl, sT, h6⟩; replace sT := sT.rk; rw [hnt.out] at sT; exact hK _ _ sT h6
  case s7 =>
    refine famStep_of [(0, some 10), (6, some 16)] (by kernel_rfl) ?_
    intro W hB v0 h0 v6 h6 K hK
    replace h0 : Rb W v0 s := h0
    replace h6 : Rb W v6 (F.thr xs (szd d xs.length) xs.length) := h6
    simp only [Act.put, List.setIfInBounds_toArray, List.set_cons_zero, List.set_cons_succ] at hK ⊢
    obtain ⟨c0, c1, c2, c3, c4, c5⟩ := cells6 (HP.below hB)
    go_simp
    go_at_call 78; refine (rSum_c _ _ s _ _ h0 h6 (by omega) htl.out).mono ?_; rintro e w6 ⟨v9, rfl, sP, h6⟩; exact hK _ _ sP.rk h6
  case s8 =>
    refine famStep_of [] (by kernel_rfl) ?_
    intro W hB K hK
    simp only [Act.put, List.setIfInBounds_toArray, List.set_cons_zero, List.set_cons_succ] at hK ⊢
    obtain ⟨c0, c1, c2, c3, c4, c5⟩ := cells6 (HP.below hB)
    go_simp
    exact hK _ _ (sS.below hB) (Below.refl _ _)
  case s9 =>
    refine famStep_of [(8, some 18)] (by kernel_rfl) ?_
    intro W hB v8 h8 K hK
    replace h8 : Rb W v8 xs := h8
    simp only [Act.put, List.setIfInBounds_toArray, List.set_cons_zero, List.set_cons_succ] at hK ⊢
    obtain ⟨c0, c1, c2, c3, c4, c5⟩ := cells6 (HP.below hB)
    go_simp
    go_at_call 81; refine (rRoot_c _ xs _ h8 (by have := hL.out.2; omega)).mono ?_; rintro e w6 ⟨v9, rfl, sR, h6⟩; exact hK _ _ sR.rk h6
  case s10 =>
    refine famStep_of [(7, some 17), (9, some 19)] (by kernel_rfl) ?_
    intro W hB v7 h7 v9 h9 K hK
    replace h7 : Rb W v7 (F.padd s (F.thr xs (szd d xs.length) xs.length)) := h7
    replace h9 : Rb W v9 (F.rt xs) := h9
    simp only [Act.put, List.setIfInBounds_toArray, List.set_cons_zero, List.set_cons_succ] at hK ⊢
    obtain ⟨c0, c1, c2, c3, c4, c5⟩ := cells6 (HP.below hB)
    go_simp
    go_at_call 197; refine (rOver_c _ _ _ xs _ h7 h9 hpl.out).mono ?_; rintro e w6 ⟨v9, rfl, sQ, h6⟩; exact hK _ _ sQ.rk h6
  case s11 =>
    refine famStep_of [] (by kernel_rfl) ?_
    intro W hB K hK
    simp only [Act.put, List.setIfInBounds_toArray, List.set_cons_zero, List.set_cons_succ] at hK ⊢
    obtain ⟨c0, c1, c2, c3, c4, c5⟩ := cells6 (HP.below hB)
    go_simp
    exact hK _ _ rfl (Below.refl _ _)
  case s12 =>
    refine famStep_of [(11, some 21)] (by kernel_rfl) ?_
    intro W hB v11 h11 K hK
    obtain rfl : v11 = (.pointer (some ⟨w.heap.size, 1, none⟩)) := h11
    simp only [Act.put, List.setIfInBounds_toArray, List.set_cons_zero, List.set_cons_succ] at hK ⊢
    obtain ⟨c0, c1, c2, c3, c4, c5⟩ := cells6 (HP.below hB)
    go_simp
    exact hK _ _ rfl (Below.refl _ _)
  case s13 =>
    refine famStep_of [(10, some 20), (12, some 22)] (by kernel_rfl) ?_
    intro W hB v10 h10 v12 h12 K hK
    replace h10 : Rb W v10 (qts xs (F.padd s (F.thr xs (szd d xs.length) xs.length))) := h10
    obtain rfl : v12 = (.int .i64 p.T) := h12
    simp only [Act.put, List.setIfInBounds_toArray, List.set_cons_zero, List.set_cons_succ] at hK ⊢
    obtain ⟨c0, c1, c2, c3, c4, c5⟩ := cells6 (HP.below hB)
    go_simp
    go_at_call 196; refine (rSized_c _ _ p.T _ h10 hT.out.1 hT.out.2).mono ?_; rintro e w6 ⟨v9, rfl, sZ, h6⟩; rw [hR.out] at sZ; exact hK _ _ (sZ.lower (bt_ hB0 hB)) h6
  case s14 =>
    refine famStep_of [(13, some 23)] (by kernel_rfl) ?_
    intro W hB v13 h13 K hK
    replace h13 : Ob w W v13 (dealM p d s) := h13
    simp only [Act.put, List.setIfInBounds_toArray, List.set_cons_zero, List.set_cons_succ] at hK ⊢
    obtain ⟨c0, c1, c2, c3, c4, c5⟩ := cells6 (HP.below hB)
    go_simp
    exact hK _ _ h13 (Below.refl _ _)
  case hQ =>
    intro W hB v0 h0 v1 h1 v2 h2 v3 h3 v4 h4 v5 h5 v6 h6 v7 h7 v8 h8 v9 h9 v10 h10 v11 h11 v12 h12 v13 h13 v14 h14
    replace h0 : Rb W v0 s := h0
    replace h1 : Rb W v1 xs := h1
    replace h2 : Rb W v2 d := h2
    replace h3 : Rb W v3 xs := h3
    obtain rfl : v4 = (.int .i64 (xs.length : Int)) := h4
    replace h5 : Rb W v5 (szd d xs.length) := h5
    replace h6 : Rb W v6 (F.thr xs (szd d xs.length) xs.length) := h6
    replace h7 : Rb W v7 (F.padd s (F.thr xs (szd d xs.length) xs.length)) := h7
    replace h8 : Rb W v8 xs := h8
    replace h9 : Rb W v9 (F.rt xs) := h9
    replace h10 : Rb W v10 (qts xs (F.padd s (F.thr xs (szd d xs.length) xs.length))) := h10
    obtain rfl : v11 = (.pointer (some ⟨w.heap.size, 1, none⟩)) := h11
    obtain rfl : v12 = (.int .i64 p.T) := h12
    replace h13 : Ob w W v13 (dealM p d s) := h13
    replace h14 : Ob w W v14 (dealM p d s) := h14
    simp only [famGo, Act.put, List.setIfInBounds_toArray, List.set_cons_zero, List.set_cons_succ]
    go_wp2
    go_ret
    exact ⟨_, rfl, h14, bt_ hB0 hB⟩
set_option maxRecDepth 100000 in
set_option maxHeartbeats 3200000 in
theorem rBlind14_c (p : Pl) (h : p.Ok) (v : Value) (s : List F) (t : Int) (w : World) (hs : Rb w v s) (b1 : s.length ≤ 256) :
   Calls Try.prog 144 #[planV p, v, .int .i64 t] w fun e w' => ∃ z, e = .returned z ∧ Ob w w' z (blindM p s t) ∧ Below w.heap.size w w' := by
  have hT : Hid (1 ≤ p.T + p.L - 1 ∧ p.T + p.L - 1 ≤ 1000000) := Lib.hid (by have := h.t; have := h.l; have := h.tl; have := h.wn; have := h.nl; omega)
  have hR : Hid (szd (qts [point t] s) (p.T + p.L - 1).toNat = blindM p s t) := Lib.hid rfl
  have u0 : IntKind.i64.wrap (p.T + p.L) = p.T + p.L := wrapI _ (by have := hT.out; omega) (by have := hT.out; omega)
  have u1 : IntKind.i64.wrap (p.T + p.L - 1) = p.T + p.L - 1 := wrapI _ (by have := hT.out; omega) (by have := hT.out; omega)
  have hpt := fun w => rPoint_c t w
  generalize point t = x at *
  replace hpt := Lib.hid hpt
  have hrt := Lib.hid (rt_one x)
  have HP := Blk.new w (planC p) 33
  have hB := below_alloc (Below.refl w.heap.size w) (.cells (planC p) 33)
  have hs := hs.below hB
  obtain ⟨c0, c1, c2, c3, c4, c5⟩ := cells6 HP
  go_enter Try.func144, Try.ntmps144
  go_wp2_with fail
  generalize w.alloc (.cells (planC p) 33) = w1 at *
  have hB0 := hB
  clear hB c0 c1 c2 c3 c4 c5
  refine wp_region_say [(isB s), (isV (.int .i64 t)), (isV (.int .u8 (x.n : Int))), (isB [x, 1]), (isB (qts [x] s)), (isV (.pointer (some ⟨w.heap.size, 1, none⟩))), (isV (.int .i64 p.T)), (isV (.pointer (some ⟨w.heap.size, 2, none⟩))), (isV (.int .i64 p.L)), (isV (.int .i64 (p.T + p.L))), (isV (.int .i64 (p.T + p.L - 1))), (isO w (blindM p s t)), (isO w (blindM p s t))] [(0, some 7), (1, some 8), (2, some 9), (3, some 10), (4, some 11), (5, some 12), (6, some 13), (7, some 14), (8, some 15), (9, some 16), (10, some 17), (11, some 18), (12, some 6)] (by kernel_rfl) (by kernel_rfl) (by kernel_rfl) ⟨last_B _, last_V _, last_V _, last_B _, last_B _, last_V _, last_V _, last_V _, last_V _, last_V _, last_V _, last_O _ _, last_O _ _, trivial⟩ ⟨?s0, ?s1, ?s2, ?s3, ?s4, ?s5, ?s6, ?s7, ?s8, ?s9, ?s10, ?s11, ?s12, trivial⟩ ?hQ
  case s0 =>
    refine famStep_of [] (by kernel_rfl) ?_
    intro W hB K hK
    simp only [Act.put, List.setIfInBounds_toArray, List.set_cons_zero, List.set_cons_succ] at hK ⊢
    obtain ⟨c0, c1, c2, c3, c4, c5⟩ := cells6 (HP.below hB)
    go_simp
    exact hK _ _ (hs.below hB) (Below.refl _ _)
  case s1 =>
    refine famStep_of [] (by kernel_rfl) ?_
    intro W hB K hK
    simp only [Act.put, List.setIfInBounds_toArray, List.set_cons_zero, List.set_cons_succ] at hK ⊢
    obtain ⟨c0, c1, c2, c3, c4, c5⟩ := cells6 (HP.below hB)
    go_simp
    exact hK _ _ rfl (Below.refl _ _)
  case s2 =>
    refine famStep_of [(1, some 8)] (by kernel_rfl) ?_
    intro W hB v1 h1 K hK
    obtain rfl : v1 = (.int .i64 t) := h1
    simp only [Act.put, List.setIfInBounds_toArray, List.set_cons_zero, List.set_cons_succ] at hK ⊢
    obtain ⟨c0, c1, c2, c3, c4, c5⟩ := cells6 (HP.below hB)
    go_simp
    go_at_call 59; refine (hpt.out _).mono ?_; rintro e w_ ⟨rfl, rfl⟩; exact hK _ _ rfl (Below.refl _ _)
  case s3 =>
    refine famStep_of [(2, some 9)] (by kernel_rfl) ?_
    intro W hB v2 h2 K hK
    obtain rfl : v2 = (.int .u8 (x.n : Int)) := h2
    simp only [Act.put, List.setIfInBounds_toArray, List.set_cons_zero, List.set_cons_succ] at hK ⊢
    obtain ⟨c0, c1, c2, c3, c4, c5⟩ := cells6 (HP.below hB)
    go_simp
    exact hK _ _ (lit_b W [x, 1] _ _ _ _ rfl rfl (by decide) (by decide)) (alloc_b _ _)
  case s4 =>
    refine famStep_of [(0, some 7), (3, some 10)] (by kernel_rfl) ?_
    intro W hB v0 h0 v3 h3 K hK
    replace h0 : Rb W v0 s := h0
    replace h3 : Rb W v3 [x, 1] := h3
    simp only [Act.put, List.setIfInBounds_toArray, List.set_cons_zero, List.set_cons_succ] at hK ⊢
    obtain ⟨c0, c1, c2, c3, c4, c5⟩ := cells6 (HP.below hB)
    go_simp
    go_at_call 197; refine (rOver_c _ _ s [x] _ h0 (by rw [hrt.out]; exact h3) b1).mono ?_; rintro e w6 ⟨v9, rfl, sQ, h6⟩; exact hK _ _ sQ.rk h6
  case s5 =>
    refine famStep_of [] (by kernel_rfl) ?_
    intro W hB K hK
    simp only [Act.put, List.setIfInBounds_toArray, List.set_cons_zero, List.set_cons_succ] at hK ⊢
    obtain ⟨c0, c1, c2, c3, c4, c5⟩ := cells6 (HP.below hB)
    go_simp
    exact hK _ _ rfl (Below.refl _ _)
  case s6 =>
    refine famStep_of [(5, some 12)] (by kernel_rfl) ?_
    intro W hB v5 h5 K hK
    obtain rfl : v5 = (.pointer (some ⟨w.heap.size, 1, none⟩)) := h5
    simp only [Act.put, List.setIfInBounds_toArray, List.set_cons_zero, List.set_cons_succ] at hK ⊢
    obtain ⟨c0, c1, c2, c3, c4, c5⟩ := cells6 (HP.below hB)
    go_simp
    exact hK _ _ rfl (Below.refl _ _)
  case s7 =>
    refine famStep_of [] (by kernel_rfl) ?_
    intro W hB K hK
    simp only [Act.put, List.setIfInBounds_toArray, List.set_cons_zero, List.set_cons_succ] at hK ⊢
    obtain ⟨c0, c1, c2, c3, c4, c5⟩ := cells6 (HP.below hB)
    go_simp
    exact hK _ _ rfl (Below.refl _ _)
  case s8 =>
    refine famStep_of [(7, some 14)] (by kernel_rfl) ?_
    intro W hB v7 h7 K hK
    obtain rfl : v7 = (.pointer (some ⟨w.heap.size, 2, none⟩)) := h7
    simp only [Act.put, List.setIfInBounds_toArray, List.set_cons_zero, List.set_cons_succ] at hK ⊢
    obtain ⟨c0, c1, c2, c3, c4, c5⟩ := cells6 (HP.below hB)
    go_simp
    exact hK _ _ rfl (Below.refl _ _)
  case s9 =>
    refine famStep_of [(6, some 13), (8, some 15)] (by kernel_rfl) ?_
    intro W hB v6 h6 v8 h8 K hK
    obtain rfl : v6 = (.int .i64 p.T) := h6
    obtain rfl : v8 = (.int .i64 p.L) := h8
    simp only [Act.put, List.setIfInBounds_toArray, List.set_cons_zero, List.set_cons_succ] at hK ⊢
    obtain ⟨c0, c1, c2, c3, c4, c5⟩ := cells6 (HP.below hB)
    go_simp
    exact hK _ _ rfl (Below.refl _ _)
  case s10 =>
    refine famStep_of [(9, some 16)] (by kernel_rfl) ?_
    intro W hB v9 h9 K hK
    obtain rfl : v9 = (.int .i64 (p.T + p.L)) := h9
    simp only [Act.put, List.setIfInBounds_toArray, List.set_cons_zero, List.set_cons_succ] at hK ⊢
    obtain ⟨c0, c1, c2, c3, c4, c5⟩ := cells6 (HP.below hB)
    go_simp
    exact hK _ _ rfl (Below.refl _ _)
  case s11 =>
    refine famStep_of [(4, some 11), (10, some 17)] (by kernel_rfl) ?_
    intro W hB v4 h4 v10 h10 K hK
    replace h4 : Rb W v4 (qts [x] s) := h4
    obtain rfl : v10 = (.int .i64 (p.T + p.L - 1)) := h10
    simp only [Act.put, List.setIfInBounds_toArray, List.set_cons_zero, List.set_cons_succ] at hK ⊢
    obtain ⟨c0, c1, c2, c3, c4, c5⟩ := cells6 (HP.below hB)
    go_simp
    go_at_call 196; refine (rSized_c _ _ (p.T + p.L - 1) _ h4 hT.out.1 hT.out.2).mono ?_; rintro e w6 ⟨v9, rfl, sZ, h6⟩; rw [hR.out] at sZ; exact hK _ _ (sZ.lower (bt_ hB0 hB)) h6
  case s12 =>
    refine famStep_of [(11, some 18)] (by kernel_rfl) ?_
    intro W hB v11 h11 K hK
    replace h11 : Ob w W v11 (blindM p s t) := h11
    simp only [Act.put, List.setIfInBounds_toArray, List.set_cons_zero, List.set_cons_succ] at hK ⊢
    obtain ⟨c0, c1, c2, c3, c4, c5⟩ := cells6 (HP.below hB)
    go_simp
    exact hK _ _ h11 (Below.refl _ _)
  case hQ =>
    intro W hB v0 h0 v1 h1 v2 h2 v3 h3 v4 h4 v5 h5 v6 h6 v7 h7 v8 h8 v9 h9 v10 h10 v11 h11 v12 h12
    replace h0 : Rb W v0 s := h0
    obtain rfl : v1 = (.int .i64 t) := h1
    obtain rfl : v2 = (.int .u8 (x.n : Int)) := h2
    replace h3 : Rb W v3 [x, 1] := h3
    replace h4 : Rb W v4 (qts [x] s) := h4
    obtain rfl : v5 = (.pointer (some ⟨w.heap.size, 1, none⟩)) := h5
    obtain rfl : v6 = (.int .i64 p.T) := h6
    obtain rfl : v7 = (.pointer (some ⟨w.heap.size, 2, none⟩)) := h7
    obtain rfl : v8 = (.int .i64 p.L) := h8
    obtain rfl : v9 = (.int .i64 (p.T + p.L)) := h9
    obtain rfl : v10 = (.int .i64 (p.T + p.L - 1)) := h10
    replace h11 : Ob w W v11 (blindM p s t) := h11
    replace h12 : Ob w W v12 (blindM p s t) := h12
    simp only [famGo, Act.put, List.setIfInBounds_toArray, List.set_cons_zero, List.set_cons_succ]
    go_wp2
    go_ret
    exact ⟨_, rfl, h12, bt_ hB0 hB⟩
end Go.Proofs.Ytijeabhfddaoaaa
