/- The walks of package rebuild: the check's closures. -/
import Derived.Test.YtijeabhfddaoaaaRb
import Derived.Test.YtijeabhfddaoaaaSl
import Derived.Test.YtijeabhfddaoaaaK9
import Derived.Test.YtijeabhfddaoaaaBf
namespace Go.Proofs.Ytijeabhfddaoaaa
set_option linter.unusedVariables false
open Go.RowKit Go.Proofs.YtijeabhfddaoaaaW.PrintWords Go.Proofs.Sh

set_option maxRecDepth 100000 in
set_option maxHeartbeats 1600000 in
theorem cfRows_reb (c0 : Value) (q : List F → Bool) (v : Value) (l : List (List F)) (w : World) (hv : Rbb w v l) (hstep : ∀ u r, r ∈ l → Rb w u r → Calls Try.prog 228 #[u, c0] w fun e w' => e = .returned (.bool (q r)) ∧ w = w') :
   Calls Try.prog 165 #[v, .func (.func 228) #[] #[c0]] w fun e w' => e = .returned (.bool (l.any q)) ∧ w = w' := by
  obtain ⟨A, c, rfl, hc, hr⟩ := hv
  have hl : l.length ≤ 9223372036854775807 := hr.2.1
  replace hstep := Lib.hid hstep
  have hidx : Calls Try.prog 202 #[.slice A l.length c, .func (.func 228) #[] #[c0]] w fun e w' => (∃ z : Int, e = .returned (.int .i64 z) ∧ decide (0 ≤ z) = l.any q) ∧ w = w' := by
    go_enter Try.func202, Try.ntmps202
    go_wp2
    go_loop [5, 8] (fun _ i => ∃ k : Nat, k ≤ l.length ∧ i = .int .i64 k ∧ Hid ((l.take k).any q = false)) (fun _ i => l.length - (intOf i).toNat)
    case atStart => exact ⟨0, by omega, rfl, Lib.hid (by simp)⟩
    case round =>
      obtain ⟨k, hk, rfl, hn⟩ := hrel
      by_cases hlt : k < l.length
      · obtain ⟨ad, u, rfl, d0, hu⟩ := kbb_at hr k hlt
        have hm : Hid (l.getD k [] ∈ l) := Lib.hid (by rw [List.getD_eq_getElem?_getD, List.getElem?_eq_getElem hlt]; exact List.getElem_mem hlt)
        have HS := Lib.hid (any_take_succ l q [] k hlt)
        have HT : Hid (q (l.getD k []) = true → l.any q = true) := Lib.hid (fun e => List.any_eq_true.2 ⟨_, hm.out, e⟩)
        generalize l.getD k [] = r at *
        go_wp2_with fail
        refine (hstep.out u r hm.out hu).mono ?_
        rintro e w_ ⟨rfl, rfl⟩
        cases hq : q r with
        | true =>
          have h1 := HT.out hq
          rw [hq] at HS
          replace h1 := Lib.hid h1
          clear hq
          go_wp2
          go_ret
          exact ⟨⟨_, rfl, by rw [h1.out]; exact decide_eq_true (by omega)⟩, rfl⟩
        | false =>
          have hn2 : Hid ((l.take (k + 1)).any q = false) := Lib.hid (by rw [HS.out, hn.out, hq]; rfl)
          clear hq HT HS
          go_wp2
          exact ⟨⟨k + 1, by omega, by go_num, hn2⟩, by simp [intOf]; try omega⟩
      · obtain rfl : k = l.length := by omega
        have h1 := hn.out
        rw [List.take_length] at h1
        replace h1 := Lib.hid h1
        go_wp2
        go_ret
        exact ⟨⟨-1, rfl, by rw [h1.out]; rfl⟩, rfl⟩
  go_enter Try.func165, Try.ntmps165
  go_wp2_with fail
  refine hidx.mono ?_
  rintro e w_ ⟨⟨z, rfl, hz⟩, rfl⟩
  replace hz := Lib.hid hz
  go_wp2
  go_ret
  rw [← hz.out]
  exact ⟨rfl, rfl⟩
theorem bWhenX (b : Bool) (c x : Int) (hx : Hid (x = if b = true then c else 0)) (w : World) :
   Calls Try.prog 219 #[.bool b, .int .i64 c] w fun e w' => e = .returned (.int .i64 x) ∧ w = w' := by
  rw [hx.out]
  exact bWhen_c b c w
set_option maxRecDepth 100000 in
set_option maxHeartbeats 1600000 in
theorem bc1_yes (p : Pl) (h : p.Ok) (b : Nat) (w : World) (HP : Blk w b (planC p) 33) :
   Calls Try.prog 218 #[.pointer (some ⟨b, 0, none⟩)] w fun e w' => e = .returned (.int .i64 0) ∧ Below w.heap.size w w' := by
  obtain ⟨c0, c1, c2, c3, c4, c5⟩ := cells6 HP
  go_enter Try.func218, Try.ntmps218
  go_wp2_with fail
  refine (right_yes p h _).mono ?_
  rintro e w1 ⟨rfl, h1⟩
  have hx : Hid ((0 : Int) = if false = true then 1 else 0) := Lib.hid rfl
  go_wp2_with fail
  refine (bWhenX false 1 0 hx _).mono ?_
  rintro e w9 ⟨rfl, rfl⟩
  go_wp2
  go_ret
  exact ⟨rfl, h1⟩
set_option maxRecDepth 100000 in
set_option maxHeartbeats 1600000 in
theorem bc1_no (p : Pl) (h : ¬ p.Ok) (b : Nat) (w : World) (HP : Blk w b (planC p) 33) :
   Calls Try.prog 218 #[.pointer (some ⟨b, 0, none⟩)] w fun e w' => e = .returned (.int .i64 1) ∧ Below w.heap.size w w' := by
  obtain ⟨c0, c1, c2, c3, c4, c5⟩ := cells6 HP
  go_enter Try.func218, Try.ntmps218
  go_wp2_with fail
  refine (right_no p h _).mono ?_
  rintro e w1 ⟨rfl, h1⟩
  have hx : Hid ((1 : Int) = if true = true then 1 else 0) := Lib.hid rfl
  go_wp2_with fail
  refine (bWhenX true 1 1 hx _).mono ?_
  rintro e w9 ⟨rfl, rfl⟩
  go_wp2
  go_ret
  exact ⟨rfl, h1⟩
set_option maxRecDepth 100000 in
set_option maxHeartbeats 1600000 in
theorem bc2_c (n : Int) (x : Int) (hx : Hid (x = if 0 ≤ n ∧ n ≤ 240 then 0 else 2)) (b : Nat) (w : World) (Hn : Blk w b #[.int .i64 n] 3) :
   Calls Try.prog 220 #[.pointer (some ⟨b, 0, none⟩)] w fun e w' => e = .returned (.int .i64 x) ∧ Below w.heap.size w w' := by
  have hy := Hn.one
  by_cases h0 : n < 0
  · have t1 : decide (n < 0) = true := decide_eq_true h0
    have hf : Hid (x = if true = true then 2 else 0) := Lib.hid (by rw [hx.out, if_neg (by omega)]; rfl)
    clear h0 hx
    go_enter Try.func220, Try.ntmps220
    go_wp2_with fail
    refine (bWhenX true 2 x hf _).mono ?_
    rintro e w9 ⟨rfl, rfl⟩
    go_wp2
    go_ret
    exact ⟨rfl, Below.refl _ _⟩
  · have t1 : decide (n < 0) = false := decide_eq_false h0
    by_cases h1 : 240 < n
    · have t2 : decide (240 < n) = true := decide_eq_true h1
      have hf : Hid (x = if true = true then 2 else 0) := Lib.hid (by rw [hx.out, if_neg (by omega)]; rfl)
      clear h0 h1 hx
      go_enter Try.func220, Try.ntmps220
      go_wp2_with fail
      refine (bWhenX true 2 x hf _).mono ?_
      rintro e w9 ⟨rfl, rfl⟩
      go_wp2
      go_ret
      exact ⟨rfl, Below.refl _ _⟩
    · have t2 : decide (240 < n) = false := decide_eq_false h1
      have hf : Hid (x = if false = true then 2 else 0) := Lib.hid (by rw [hx.out, if_pos (by omega)]; rfl)
      clear h0 h1 hx
      go_enter Try.func220, Try.ntmps220
      go_wp2_with fail
      refine (bWhenX false 2 x hf _).mono ?_
      rintro e w9 ⟨rfl, rfl⟩
      go_wp2
      go_ret
      exact ⟨rfl, Below.refl _ _⟩
def badR (p : Pl) (i : Int) : Bool := !decide (1 ≤ i ∧ i ≤ p.N)
theorem bc31_c (p : Pl) (h : p.Ok) (b : Nat) (i : Int) (w : World) (HP : Blk w b (planC p) 33) :
   Calls Try.prog 222 #[.int .i64 i, .pointer (some ⟨b, 0, none⟩)] w fun e w' => e = .returned (.bool (badR p i)) ∧ Below w.heap.size w w' := by
  have hb : Hid (badR p i = !decide (1 ≤ i ∧ i ≤ p.N)) := Lib.hid rfl
  obtain ⟨c0, c1, c2, c3, c4, c5⟩ := cells6 HP
  have hi := fun w => is_yes p h i w
  generalize decide (1 ≤ i ∧ i ≤ p.N) = bb at *
  replace hi := Lib.hid hi
  go_enter Try.func222, Try.ntmps222
  go_wp2_with fail
  refine (hi.out _).mono ?_
  rintro e w2 ⟨rfl, h2⟩
  go_wp2
  go_ret
  rw [hb.out]
  exact ⟨rfl, h2⟩
set_option maxRecDepth 100000 in
set_option maxHeartbeats 1600000 in
theorem bc3_c (p : Pl) (h : p.Ok) (bw b : Nat) (v : Value) (who : List Int) (w : World) (Hw : Blk w bw #[v] 36) (HP : Blk w b (planC p) 33) (hv : Ri w v who) (x : Int) (hx : Hid (x = if who.any (badR p) = true then 2 else 0)) :
   Calls Try.prog 221 #[.pointer (some ⟨bw, 0, none⟩), .pointer (some ⟨b, 0, none⟩)] w fun e w' => e = .returned (.int .i64 x) ∧ Below w.heap.size w w' := by
  have hx9 := Hw.one
  obtain ⟨bb, hbb⟩ : ∃ bb, bb = who.any (badR p) := ⟨_, rfl⟩
  rw [← hbb] at hx
  replace hbb := Lib.hid hbb
  go_enter Try.func221, Try.ntmps221
  go_wp2_with fail
  refine (cfInts_reb _ (badR p) v who _ hv (fun i wr hB => bc31_c p h b i wr (HP.below hB))).mono ?_
  rintro e w1 ⟨rfl, h1⟩
  rw [← hbb.out]
  go_wp2_with fail
  refine (bWhenX bb 2 x hx _).mono ?_
  rintro e w9 ⟨rfl, rfl⟩
  go_wp2
  go_ret
  exact ⟨rfl, h1⟩
set_option maxHeartbeats 1600000 in
theorem bTwice_c (v : Value) (who : List Int) (w : World) (hv : Ri w v who) :
   Calls Try.prog 224 #[v] w fun e w' => e = .returned (.bool (!decide who.Nodup)) ∧ w = w' := by
  obtain ⟨A, c, rfl, hc, hr⟩ := hv
  have hl := ri_len hr
  go_enter Try.func224, Try.ntmps224
  go_wp2_with fail
  go_loop [3, 4, 7] (fun _ _ i => ∃ k : Nat, k ≤ who.length ∧ i = .int .i64 k ∧ Hid ((who.take k).Nodup)) (fun _ _ i => who.length - (intOf i).toNat)
  case atStart => exact ⟨0, by omega, rfl, Lib.hid (by simp)⟩
  case round =>
    obtain ⟨k, hk, rfl, hnd⟩ := hrel
    by_cases hlt : k < who.length
    · obtain ⟨ad, rfl, c1⟩ := ki_at hr k hlt
      have hns := Lib.hid (nodup_take_succI who k hlt)
      have hkc : (k : Int) ≤ (c : Int) := by omega
      have ht : Ri w (.slice (some ad) k c) (who.take k) := ⟨_, c, by rw [List.length_take, Nat.min_eq_left hk], by rw [List.length_take]; omega, Kd.C_take hr hk⟩
      generalize who.getD k 0 = x at *
      by_cases hm : x ∈ who.take k
      · have hf : Hid ((!decide who.Nodup) = true) := Lib.hid (by
          rw [decide_eq_false (fun h => (hns.out.1 (h.sublist (List.take_sublist _ _))).2 hm)]; rfl)
        have hm := Lib.hid (decide_eq_true hm)
        go_wp2_with fail
        refine (iContains_c _ _ x _ ht).mono ?_
        rintro e w_ ⟨rfl, rfl⟩
        rw [hm.out]
        go_wp2
        go_ret
        rw [hf.out]
        exact ⟨rfl, rfl⟩
      · have hf : Hid ((who.take (k + 1)).Nodup) := Lib.hid (hns.out.2 ⟨hnd.out, hm⟩)
        have hm := Lib.hid (decide_eq_false hm)
        go_wp2_with fail
        refine (iContains_c _ _ x _ ht).mono ?_
        rintro e w_ ⟨rfl, rfl⟩
        rw [hm.out]
        go_wp2
        exact ⟨⟨k + 1, by omega, by go_num, hf⟩, by simp [intOf]; try omega⟩
    · obtain rfl : k = who.length := by omega
      rw [List.take_length] at hnd
      have hf : Hid ((!decide who.Nodup) = false) := Lib.hid (by rw [decide_eq_true hnd.out]; rfl)
      go_wp2
      go_ret
      rw [hf.out]
      exact ⟨rfl, rfl⟩
set_option maxRecDepth 100000 in
set_option maxHeartbeats 1600000 in
theorem bc4_c (bw : Nat) (v : Value) (who : List Int) (w : World) (Hw : Blk w bw #[v] 36) (hv : Ri w v who) (x : Int) (hx : Hid (x = if (!decide who.Nodup) = true then 5 else 0)) :
   Calls Try.prog 223 #[.pointer (some ⟨bw, 0, none⟩)] w fun e w' => e = .returned (.int .i64 x) ∧ Below w.heap.size w w' := by
  have hx9 := Hw.one
  have ht := bTwice_c v who w hv
  generalize (!decide who.Nodup) = bb at *
  replace ht := Lib.hid ht
  go_enter Try.func223, Try.ntmps223
  go_wp2_with fail
  refine ht.out.mono ?_
  rintro e w1 ⟨rfl, rfl⟩
  go_wp2_with fail
  refine (bWhenX bb 5 x hx _).mono ?_
  rintro e w9 ⟨rfl, rfl⟩
  go_wp2
  go_ret
  exact ⟨rfl, Below.refl _ _⟩
set_option maxRecDepth 100000 in
set_option maxHeartbeats 1600000 in
theorem bc5_c (p : Pl) (h : p.Ok) (bw b : Nat) (v : Value) (who : List Int) (w : World) (Hw : Blk w bw #[v] 36) (HP : Blk w b (planC p) 33) (hv : Ri w v who) (x : Int) (hx : Hid (x = if decide ((who.length : Int) < p.T + p.L) = true then 6 else 0)) :
   Calls Try.prog 225 #[.pointer (some ⟨bw, 0, none⟩), .pointer (some ⟨b, 0, none⟩)] w fun e w' => e = .returned (.int .i64 x) ∧ Below w.heap.size w w' := by
  obtain ⟨A, c, rfl⟩ := rk_form hv
  obtain ⟨bb, hbb⟩ : ∃ bb, decide ((who.length : Int) < p.T + p.L) = bb := ⟨_, rfl⟩
  rw [hbb] at hx
  go_enter Try.func225, Try.ntmps225
  go_wp2_with fail
  refine wp_region_tell [.v (.slice A who.length c), .v (.int .i64 (who.length : Int)), .v (planV p), .v (.int .i64 (p.T + p.L)), .v (.bool bb), .v (.int .i64 x), .v (.int .i64 x)] [([], none), ([(0, some 3)], none), ([], none), ([(2, some 5)], none), ([(1, some 4), (3, some 6)], none), ([(4, some 7)], none), ([(5, some 8)], none)] [(0, some 3), (1, some 4), (2, some 5), (3, some 6), (4, some 7), (5, some 8), (6, some 2)] (by kernel_rfl) (by kernel_rfl) (by kernel_rfl) (by kernel_rfl) (by exact ⟨trivial, trivial, trivial, trivial, trivial, trivial, trivial, trivial⟩) ⟨?s0, ?s1, ?s2, ?s3, ?s4, ?s5, ?s6, trivial⟩ ?hQ
  case s0 =>
    intro W hB K hK
    simp only [tellK, Act.put, List.setIfInBounds_toArray, List.set_cons_zero, List.set_cons_succ] at hK ⊢
    refine tell_do rfl ?_
    obtain ⟨c0, c1, c2, c3, c4, c5⟩ := cells6 (HP.below hB); have hx9 := (Hw.below hB).one
    go_simp
    exact hK _ (Below.refl _ _)
  case s1 =>
    intro W hB K hK
    simp only [tellK, Act.put, List.setIfInBounds_toArray, List.set_cons_zero, List.set_cons_succ] at hK ⊢
    refine tell_do rfl ?_
    obtain ⟨c0, c1, c2, c3, c4, c5⟩ := cells6 (HP.below hB); have hx9 := (Hw.below hB).one
    go_simp
    exact hK _ (Below.refl _ _)
  case s2 =>
    intro W hB K hK
    simp only [tellK, Act.put, List.setIfInBounds_toArray, List.set_cons_zero, List.set_cons_succ] at hK ⊢
    refine tell_do rfl ?_
    obtain ⟨c0, c1, c2, c3, c4, c5⟩ := cells6 (HP.below hB); have hx9 := (Hw.below hB).one
    go_simp
    exact hK _ (Below.refl _ _)
  case s3 =>
    intro W hB K hK
    simp only [tellK, Act.put, List.setIfInBounds_toArray, List.set_cons_zero, List.set_cons_succ] at hK ⊢
    refine tell_do rfl ?_
    obtain ⟨c0, c1, c2, c3, c4, c5⟩ := cells6 (HP.below hB); have hx9 := (Hw.below hB).one
    go_simp
    go_at_call 63; refine (need_yes p h _).mono ?_; rintro e w6 ⟨rfl, h6⟩; exact hK _ h6
  case s4 =>
    intro W hB K hK
    simp only [tellK, Act.put, List.setIfInBounds_toArray, List.set_cons_zero, List.set_cons_succ] at hK ⊢
    refine tell_do rfl ?_
    obtain ⟨c0, c1, c2, c3, c4, c5⟩ := cells6 (HP.below hB); have hx9 := (Hw.below hB).one
    go_simp
    exact hK _ (Below.refl _ _)
  case s5 =>
    intro W hB K hK
    simp only [tellK, Act.put, List.setIfInBounds_toArray, List.set_cons_zero, List.set_cons_succ] at hK ⊢
    refine tell_do rfl ?_
    obtain ⟨c0, c1, c2, c3, c4, c5⟩ := cells6 (HP.below hB); have hx9 := (Hw.below hB).one
    go_simp
    go_at_call 219; refine (bWhenX bb 6 x hx _).mono ?_; rintro e w6 ⟨rfl, rfl⟩; exact hK _ (Below.refl _ _)
  case s6 =>
    intro W hB K hK
    simp only [tellK, Act.put, List.setIfInBounds_toArray, List.set_cons_zero, List.set_cons_succ] at hK ⊢
    refine tell_do rfl ?_
    obtain ⟨c0, c1, c2, c3, c4, c5⟩ := cells6 (HP.below hB); have hx9 := (Hw.below hB).one
    go_simp
    exact hK _ (Below.refl _ _)
  case hQ =>
    intro W hB
    simp only [tellGo, sayAt, List.getD_cons_zero, List.getD_cons_succ, Act.put, List.setIfInBounds_toArray, List.set_cons_zero, List.set_cons_succ]
    go_wp2
    go_ret
    exact ⟨rfl, hB⟩
set_option maxRecDepth 100000 in
set_option maxHeartbeats 1600000 in
theorem bc6_c (bs bw : Nat) (u v : Value) (sh : List (List F)) (who : List Int) (w : World) (Hs : Blk w bs #[u] 66) (Hw : Blk w bw #[v] 36) (hu : Rbb w u sh) (hv : Ri w v who) (x : Int) (hx : Hid (x = if ((sh.length : Int) != (who.length : Int)) = true then 3 else 0)) :
   Calls Try.prog 226 #[.pointer (some ⟨bs, 0, none⟩), .pointer (some ⟨bw, 0, none⟩)] w fun e w' => e = .returned (.int .i64 x) ∧ Below w.heap.size w w' := by
  obtain ⟨A, c, rfl⟩ := rk_form hv
  obtain ⟨B, d, rfl⟩ := rk_form hu
  have hx9 := Hw.one
  have hy := Hs.one
  go_enter Try.func226, Try.ntmps226
  go_wp2_with fail
  refine (bWhenX _ 3 x hx _).mono ?_
  rintro e w9 ⟨rfl, rfl⟩
  go_wp2
  go_ret
  exact ⟨rfl, Below.refl _ _⟩
set_option maxHeartbeats 400000 in
theorem bc71_c (n : Int) (b : Nat) (u : Value) (r : List F) (w : World) (hc : w.cell? ⟨b, 0, none⟩ = some (.int .i64 n)) (hu : Rb w u r) :
   Calls Try.prog 228 #[u, .pointer (some ⟨b, 0, none⟩)] w fun e w' => e = .returned (.bool (bad3 n r)) ∧ w = w' := by
  obtain ⟨A, c, rfl, hc2, hr⟩ := hu
  have hb : Hid (bad3 n r = ((r.length : Int) != n)) := Lib.hid rfl
  go_enter Try.func228, Try.ntmps228
  go_wp2
  go_ret
  rw [hb.out]
  exact ⟨rfl, rfl⟩
set_option maxRecDepth 100000 in
set_option maxHeartbeats 1600000 in
theorem bc7_c (bs bn : Nat) (n : Int) (u : Value) (sh : List (List F)) (w : World) (Hs : Blk w bs #[u] 66) (Hn : Blk w bn #[.int .i64 n] 3) (hu : Rbb w u sh) (x : Int) (hx : Hid (x = if sh.any (bad3 n) = true then 3 else 0)) :
   Calls Try.prog 227 #[.pointer (some ⟨bs, 0, none⟩), .pointer (some ⟨bn, 0, none⟩)] w fun e w' => e = .returned (.int .i64 x) ∧ Below w.heap.size w w' := by
  have hx9 := Hs.one
  have hy := Hn.one
  obtain ⟨bb, hbb⟩ : ∃ bb, bb = sh.any (bad3 n) := ⟨_, rfl⟩
  rw [← hbb] at hx
  replace hbb := Lib.hid hbb
  go_enter Try.func227, Try.ntmps227
  go_wp2_with fail
  refine (cfRows_reb _ (bad3 n) u sh _ hu (fun u r hr9 hu9 => bc71_c n bn u r _ hy hu9)).mono ?_
  rintro e w1 ⟨rfl, rfl⟩
  rw [← hbb.out]
  go_wp2_with fail
  refine (bWhenX bb 3 x hx _).mono ?_
  rintro e w9 ⟨rfl, rfl⟩
  go_wp2
  go_ret
  exact ⟨rfl, Below.refl _ _⟩
end Go.Proofs.Ytijeabhfddaoaaa
