/- The walk of the law SpacePlays. -/
import Derived.Test.YtacbenjfiabegaaTg
import Derived.Deep.RegionHeld3
namespace Go.Proofs.Ytacbenjfiabegaa
set_option linter.unusedVariables false
set_option linter.unusedSimpArgs false
open Go.RowKit Go.Proofs.YtacbenjfiabegaaW.PrintWords Go.Proofs.Sh

theorem Sp.typ {w0 w : World} {b g c : Nat} {l : List Bool} (h : Sp w0 w b g c l) : ∃ cells, Blk w g cells 4 := own_typed (ol_own h.own) g rfl
theorem Sm.typ {w0 w : World} {b g c : Nat} {l : List Bool} (h : Sm w0 w b g c l) : ∃ cells, Blk w g cells 4 := own_typed (ol_own h.own) g rfl
theorem blk_ne {w : World} {a b : Nat} {cs ds : Array Value} {s t : TypeId} (h : Blk w a cs s) (h2 : Blk w b ds t) (hne : s ≠ t) : a ≠ b := fun e => by
  subst e
  have h : w.heap[a]? = _ := h
  have h2 : w.heap[a]? = _ := h2
  rw [h] at h2
  injection h2 with h2
  injection h2 with _ h2
  exact hne h2
/-- Both spaces, of the same slots. -/
structure Both (w0 w : World) (b g c b' g' c' : Nat) (l : List Bool) : Prop where
  s : Sp w0 w b g c l
  m : Sm w0 w b' g' c' l
  ne : g ≠ g'
  b : Below w0.heap.size w0 w
theorem Both.below {w0 w w1 : World} {b g c b' g' c' : Nat} {l : List Bool} (h : Both w0 w b g c b' g' c' l) (hb : Below w.heap.size w w1) : Both w0 w1 b g c b' g' c' l := ⟨h.s.below hb, h.m.below hb, h.ne, bt_ h.b hb⟩
theorem Sm.keep {w0 w w1 : World} {b g c b' g' c' : Nat} {l l' : List Bool} (hm : Sm w0 w b' g' c' l') (hs : Sp w0 w b g c l) (hne : g ≠ g') (hg : w.grownBy w1 (some g)) : Sm w0 w1 b' g' c' l' := by
  obtain ⟨cells, ht⟩ := hs.typ
  exact hm.other hg (blk_ne hm.box ht (by decide)) (Ne.symm hne)
theorem Sp.keep {w0 w w1 : World} {b g c b' g' c' : Nat} {l l' : List Bool} (hs : Sp w0 w b g c l) (hm : Sm w0 w b' g' c' l') (hne : g ≠ g') (hg : w.grownBy w1 (some g')) : Sp w0 w1 b g c l := by
  obtain ⟨cells, ht⟩ := hm.typ
  exact hs.other hg (blk_ne hs.box ht (by decide)) hne
set_option maxRecDepth 100000 in
set_option maxHeartbeats 6400000 in
theorem SpacePlays_c (slots : Int) (v : Value) (L : List Ac) (ask : Int) (w : World) (hv : Rk ka w v L) :
   Calls Try.prog 6 #[.int .i64 slots, v, .int .i64 ask] w fun e w' => e = .returned (.bool true) ∧ Below w.heap.size w w' := by
  obtain ⟨A, c0, rfl⟩ := rk_form hv
  have hlm : L.length ≤ 9223372036854775807 := (rk_C hv).2.1
  by_cases h60 : (60 : Int) < L.length
  · have t1 : decide ((60 : Int) < (L.length : Int)) = true := decide_eq_true h60
    go_enter Try.func6, Try.ntmps6
    go_wp2_with fail
    refine (alive21_c w).mono ?_
    rintro e w1 ⟨rfl, h1⟩
    go_wp2
    go_ret
    exact ⟨rfl, h1⟩
  have t1 : decide ((60 : Int) < (L.length : Int)) = false := decide_eq_false h60
  have hnb := newN_b slots
  go_enter Try.func6, Try.ntmps6
  go_wp2_with fail
  refine (spNew_c slots w).mono ?_
  rintro e w1 ⟨b, g, c, rfl, hS, hB1⟩
  go_wp2_with fail
  refine (rNew_c slots w1).mono ?_
  rintro e w2 ⟨b', g', c', rfl, hM, hB2⟩
  have hJ : Both w w2 b g c b' g' c' (List.replicate (newN slots) true) := ⟨hS.below hB2, hM.lower hB1, by have := hS.glt; have := hM.gbase; omega, bt_ hB1 hB2⟩
  have hll : (List.replicate (newN slots) true).length = newN slots := List.length_replicate
  generalize List.replicate (newN slots) true = l at *
  clear hS hM hB1 hB2
  go_wp2_with fail
  go_loopw [25] (fun i wr => ∃ (k : Nat) (l : List Bool), i = .int .i64 k ∧ k ≤ L.length ∧ Both w wr b g c b' g' c' l ∧ 1 ≤ l.length ∧ l.length ≤ 256) (fun i _ => L.length - (intOf i).toNat)
  case atStart => exact ⟨0, l, rfl, by omega, hJ, by omega, by omega⟩
  case round =>
    clear hJ hll l
    obtain ⟨k, l, rfl, hk, hJ, hl1, hl2⟩ := hrel
    by_cases hlt : k < L.length
    · obtain ⟨ad, rfl, d0, d1, d2⟩ := act_at hv k hlt
      have d0 := pw_cell_below hJ.b d0
      have d1 := pw_cell_below hJ.b d1
      have d2 := pw_cell_below hJ.b d2
      generalize L.getD k (0, 0, 0) = ac at *
      obtain ⟨k0, a0, n0⟩ := ac
      simp only at d0 d1 d2
      rw [← Go.Deep.add_add, show (ad.add (k * 3)).add 1 = ⟨(ad.add (k * 3)).block, (ad.add (k * 3)).off + 1, none⟩ from by rw [Addr.add_succ']] at d1
      rw [← Go.Deep.add_add, show (ad.add (k * 3)).add 2 = ⟨(ad.add (k * 3)).block, (ad.add (k * 3)).off + 2, none⟩ from by rw [Addr.add_succ']] at d2
      go_upto_region 7 with fail
      have hbx := Blk.new wr #[.int .i64 k0, .int .i64 a0, .int .i64 n0] 67
      have h1 := below_alloc (Below.refl wr.heap.size wr) (.cells #[.int .i64 k0, .int .i64 a0, .int .i64 n0] 67)
      replace hJ := hJ.below h1
      generalize wr.alloc (.cells #[.int .i64 k0, .int .i64 a0, .int .i64 n0] 67) = w2 at *
      generalize wr.heap.size = ba at *
      have e0 : w2.cell? ⟨ba, 0, none⟩ = some (.int .i64 k0) := hbx.cell 0 _ rfl
      have e1 : w2.cell? ⟨ba, 1, none⟩ = some (.int .i64 a0) := hbx.cell 1 _ rfl
      have e2 : w2.cell? ⟨ba, 2, none⟩ = some (.int .i64 n0) := hbx.cell 2 _ rfl
      clear h1 d0 d1 d2
      by_cases hk0 : k0 = 0
      · have tk : (k0 == 0) = true := by rw [hk0]; rfl
        clear hk0
        go_wp2_with fail
        refine (take_c b g c l n0 w w2 hJ.s hJ.b (by omega)).mono ?_
        rintro e w3 ⟨rfl, hS3, hB3, hG3⟩
        have hM3 := hJ.m.keep hJ.s hJ.ne hG3
        obtain ⟨ct, ht⟩ := hJ.s.typ
        have hX3 : Blk w3 ba #[.int .i64 k0, .int .i64 a0, .int .i64 n0] 67 := blk_grown hbx hG3 (by simpa using blk_ne hbx ht (by decide))
        have hne := hJ.ne
        replace e2 : w3.cell? ⟨ba, 2, none⟩ = some (.int .i64 n0) := hX3.cell 2 _ rfl
        clear hJ hbx e0 e1 hX3 hG3 ht
        go_wp2_with fail
        refine (rTake_c b' g' c' l n0 w w3 hM3 hB3).mono ?_
        rintro e w4 ⟨rfl, hM4, hB4, hG4⟩
        have hlt4 := takeL_len l n0
        generalize takeL l n0 = tk9 at *
        obtain ⟨at_, ok, l2⟩ := tk9
        simp only at hM4 hS3 hlt4
        have hS4 := hS3.keep hM3 hne hG4
        have hJ : Both w w4 b g c b' g' c' l2 := ⟨hS4, hM4, hne, hB4⟩
        have ta : (at_ != at_) = false := by simp
        have tok : (ok != ok) = false := by simp
        clear hS3 hM3 hB3 hM4 hB4 hG4 hS4 hne e2
        go_wp2_with fail
        refine (free_c _ _ _ hJ.s.rs (by omega)).mono ?_
        rintro e wa ⟨rfl, ha⟩
        replace hJ := hJ.below ha
        clear ha
        go_wp2_with fail
        refine (rCount_c b' l2 wa hJ.m.rm (by omega)).mono ?_
        rw [runs_sum]
        rintro e wb ⟨rfl, rfl⟩
        have tc : (cntT l2 != cntT l2) = false := by simp
        generalize cntT l2 = cn at *
        go_wp2_with fail
        refine (longest_c _ _ wa hJ.s.rs (by omega)).mono ?_
        rintro e wb ⟨rfl, hb⟩
        replace hJ := hJ.below hb
        clear hb
        go_wp2_with fail
        refine (rLongest_c b' l2 wb hJ.m.rm).mono ?_
        rintro e wc ⟨rfl, rfl⟩
        have tm : (maxR (runsL l2) != maxR (runsL l2)) = false := by simp
        generalize maxR (runsL l2) = mx at *
        go_wp2
        exact ⟨⟨k + 1, _, by go_num, by omega, hJ, by omega, by omega⟩, by simp [intOf]; omega⟩
      · have tk : (k0 == 0) = false := beq_eq_false_iff_ne.2 hk0
        by_cases hk1 : k0 = 1
        · have tk1 : (k0 == 1) = true := by rw [hk1]; rfl
          clear hk0 hk1
          have hbox := Lib.hid hbx
          have hd := below_drew (Below.refl w2.heap.size w2)
          have hS9 := (hJ.below hd).s
          have hM9 := (hJ.below hd).m
          have hB9 := (hJ.below hd).b
          have hX9 := hbx.below hd
          have hne := hJ.ne
          have hle1 := setL_len l a0 n0 false
          clear hbx e1 e2 hJ
          have e1 : w2.cell? ⟨ba, 1, none⟩ = some (.int .i64 a0) := hbox.out.cell 1 _ rfl
          have e2 : w2.cell? ⟨ba, 2, none⟩ = some (.int .i64 n0) := hbox.out.cell 2 _ rfl
          go_upto_region 16 with fail
          go_region_held3 (fun w' => w'.cell? ⟨ba, 1, none⟩ = some (.int .i64 a0) ∧ w'.cell? ⟨ba, 2, none⟩ = some (.int .i64 n0))
            (go_keep)
            (first
            | (go_at_call 31; obtain ⟨ct, ht⟩ := hS9.typ; have hsx := use_c b g c l a0 n0 w _ hS9 hB9; refine hsx.mono ?_; rintro e w9 ⟨rfl, hS9', hB9, hG9⟩; have hM9 := hM9.keep hS9 hne hG9; have hX9 : Blk w9 ba #[.int .i64 k0, .int .i64 a0, .int .i64 n0] 67 := blk_grown hX9 hG9 (by simpa using blk_ne hX9 ht (by decide)); replace hS9 := hS9'; have e1 : w9.cell? ⟨ba, 1, none⟩ = some (.int .i64 a0) := hX9.cell 1 _ rfl; have e2 : w9.cell? ⟨ba, 2, none⟩ = some (.int .i64 n0) := hX9.cell 2 _ rfl)
            | (go_at_call 32; obtain ⟨ct, ht⟩ := hM9.typ; have hsx := rSet_c b' g' c' l a0 n0 false w _ hM9 hB9; refine hsx.mono ?_; rintro e w9 ⟨rfl, hM9', hB9, hG9⟩; have hS9 := hS9.keep hM9 hne hG9; have hX9 : Blk w9 ba #[.int .i64 k0, .int .i64 a0, .int .i64 n0] 67 := blk_grown hX9 hG9 (by simpa using blk_ne hX9 ht (by decide)); replace hM9 := hM9'; have e1 : w9.cell? ⟨ba, 1, none⟩ = some (.int .i64 a0) := hX9.cell 1 _ rfl; have e2 : w9.cell? ⟨ba, 2, none⟩ = some (.int .i64 n0) := hX9.cell 2 _ rfl)
            | fail)
          all_goals
            have hJ : Both w _ b g c b' g' c' (setL l a0 n0 false) := ⟨hS9, hM9, hne, hB9⟩
            have tq : (allB l a0 n0 (!false) != allB l a0 n0 (!false)) = false := by simp
            generalize allB l a0 n0 (!false) = qq at *
            clear hS9 hM9 hB9 hX9 hbox e1 e2
            generalize setL l a0 n0 false = l2 at *
            go_wp2_with fail
            refine (free_c _ _ _ hJ.s.rs (by omega)).mono ?_
            rintro e wa ⟨rfl, ha⟩
            replace hJ := hJ.below ha
            clear ha
            go_wp2_with fail
            refine (rCount_c b' l2 wa hJ.m.rm (by omega)).mono ?_
            rw [runs_sum]
            rintro e wb ⟨rfl, rfl⟩
            have tc : (cntT l2 != cntT l2) = false := by simp
            generalize cntT l2 = cn at *
            go_wp2_with fail
            refine (longest_c _ _ wa hJ.s.rs (by omega)).mono ?_
            rintro e wb ⟨rfl, hb⟩
            replace hJ := hJ.below hb
            clear hb
            go_wp2_with fail
            refine (rLongest_c b' l2 wb hJ.m.rm).mono ?_
            rintro e wc ⟨rfl, rfl⟩
            have tm : (maxR (runsL l2) != maxR (runsL l2)) = false := by simp
            generalize maxR (runsL l2) = mx at *
            go_wp2
            exact ⟨⟨k + 1, _, by go_num, by omega, hJ, by omega, by omega⟩, by simp [intOf]; omega⟩
        · have tk1 : (k0 == 1) = false := beq_eq_false_iff_ne.2 hk1
          clear hk0 hk1
          have hbox := Lib.hid hbx
          have hd := below_drew (Below.refl w2.heap.size w2)
          have hS9 := (hJ.below hd).s
          have hM9 := (hJ.below hd).m
          have hB9 := (hJ.below hd).b
          have hX9 := hbx.below hd
          have hne := hJ.ne
          have hle1 := setL_len l a0 n0 true
          clear hbx e1 e2 hJ
          have e1 : w2.cell? ⟨ba, 1, none⟩ = some (.int .i64 a0) := hbox.out.cell 1 _ rfl
          have e2 : w2.cell? ⟨ba, 2, none⟩ = some (.int .i64 n0) := hbox.out.cell 2 _ rfl
          go_upto_region 8 with fail
          go_region_held3 (fun w' => w'.cell? ⟨ba, 1, none⟩ = some (.int .i64 a0) ∧ w'.cell? ⟨ba, 2, none⟩ = some (.int .i64 n0))
            (go_keep)
            (first
            | (go_at_call 33; obtain ⟨ct, ht⟩ := hS9.typ; have hsx := give_c b g c l a0 n0 w _ hS9 hB9; refine hsx.mono ?_; rintro e w9 ⟨rfl, hS9', hB9, hG9⟩; have hM9 := hM9.keep hS9 hne hG9; have hX9 : Blk w9 ba #[.int .i64 k0, .int .i64 a0, .int .i64 n0] 67 := blk_grown hX9 hG9 (by simpa using blk_ne hX9 ht (by decide)); replace hS9 := hS9'; have e1 : w9.cell? ⟨ba, 1, none⟩ = some (.int .i64 a0) := hX9.cell 1 _ rfl; have e2 : w9.cell? ⟨ba, 2, none⟩ = some (.int .i64 n0) := hX9.cell 2 _ rfl)
            | (go_at_call 32; obtain ⟨ct, ht⟩ := hM9.typ; have hsx := rSet_c b' g' c' l a0 n0 true w _ hM9 hB9; refine hsx.mono ?_; rintro e w9 ⟨rfl, hM9', hB9, hG9⟩; have hS9 := hS9.keep hM9 hne hG9; have hX9 : Blk w9 ba #[.int .i64 k0, .int .i64 a0, .int .i64 n0] 67 := blk_grown hX9 hG9 (by simpa using blk_ne hX9 ht (by decide)); replace hM9 := hM9'; have e1 : w9.cell? ⟨ba, 1, none⟩ = some (.int .i64 a0) := hX9.cell 1 _ rfl; have e2 : w9.cell? ⟨ba, 2, none⟩ = some (.int .i64 n0) := hX9.cell 2 _ rfl)
            | fail)
          all_goals
            have hJ : Both w _ b g c b' g' c' (setL l a0 n0 true) := ⟨hS9, hM9, hne, hB9⟩
            have tq : (allB l a0 n0 (!true) != allB l a0 n0 (!true)) = false := by simp
            generalize allB l a0 n0 (!true) = qq at *
            clear hS9 hM9 hB9 hX9 hbox e1 e2
            generalize setL l a0 n0 true = l2 at *
            go_wp2_with fail
            refine (free_c _ _ _ hJ.s.rs (by omega)).mono ?_
            rintro e wa ⟨rfl, ha⟩
            replace hJ := hJ.below ha
            clear ha
            go_wp2_with fail
            refine (rCount_c b' l2 wa hJ.m.rm (by omega)).mono ?_
            rw [runs_sum]
            rintro e wb ⟨rfl, rfl⟩
            have tc : (cntT l2 != cntT l2) = false := by simp
            generalize cntT l2 = cn at *
            go_wp2_with fail
            refine (longest_c _ _ wa hJ.s.rs (by omega)).mono ?_
            rintro e wb ⟨rfl, hb⟩
            replace hJ := hJ.below hb
            clear hb
            go_wp2_with fail
            refine (rLongest_c b' l2 wb hJ.m.rm).mono ?_
            rintro e wc ⟨rfl, rfl⟩
            have tm : (maxR (runsL l2) != maxR (runsL l2)) = false := by simp
            generalize maxR (runsL l2) = mx at *
            go_wp2
            exact ⟨⟨k + 1, _, by go_num, by omega, hJ, by omega, by omega⟩, by simp [intOf]; omega⟩
    · obtain rfl : k = L.length := by omega
      have hrm := hJ.m.box.one
      have his := Lib.hid (is_c (.pointer (some ⟨b, 0, none⟩)) l ask wr hJ.s.rs)
      by_cases ha0 : ask < 0
      · have tb : allB l ask 1 true = false := by unfold allB; rw [decide_eq_false (by omega)]; rfl
        have ta : decide (0 ≤ ask) = false := decide_eq_false (by omega)
        rw [tb] at his
        clear tb
        go_wp2_with fail
        refine his.out.mono ?_
        rintro e wa ⟨rfl, rfl⟩
        go_wp2_with fail
        refine (alive21_c wr).mono ?_
        rintro e w9 ⟨rfl, h9⟩
        have hBf := bt_ hJ.b h9
        clear h9 hJ
        go_wp2
        go_ret
        exact ⟨rfl, hBf⟩
      · have ta : decide (0 ≤ ask) = true := decide_eq_true (by omega)
        by_cases hal : ask < (l.length : Int)
        · have tl : decide (ask < (l.length : Int)) = true := decide_eq_true hal
          obtain ⟨q, rfl⟩ : ∃ q : Nat, ask = q := ⟨ask.toNat, by omega⟩
          obtain ⟨d0, _⟩ := Ol.at hJ.m.own q (by omega)
          have hql : q < l.length := by omega
          have tb : allB l (q : Int) 1 true = l.getD q false := by
            cases hx : l.getD q false with
            | true => exact allB_yes (f := false) (m := 1) (by omega) (by omega) (fun j hj => by rw [show q + j = q by omega]; exact hx)
            | false => exact allB_not (f := false) (m := 1) (j := 0) (by omega) (by omega) hx
          rw [tb] at his
          clear tb
          have te : (l.getD q false == l.getD q false) = true := beq_self_eq_true _
          generalize l.getD q false = x at *
          go_wp2_with fail
          refine his.out.mono ?_
          rintro e wa ⟨rfl, rfl⟩
          go_wp2_with fail
          refine (alive21_c wr).mono ?_
          rintro e w9 ⟨rfl, h9⟩
          have hBf := bt_ hJ.b h9
          clear h9 hJ
          go_wp2
          go_ret
          exact ⟨rfl, hBf⟩
        · have tl : decide (ask < (l.length : Int)) = false := decide_eq_false hal
          have tb : allB l ask 1 true = false := by unfold allB; rw [decide_eq_false (by omega)]; rfl
          rw [tb] at his
          clear tb
          go_wp2_with fail
          refine his.out.mono ?_
          rintro e wa ⟨rfl, rfl⟩
          go_wp2_with fail
          refine (alive21_c wr).mono ?_
          rintro e w9 ⟨rfl, h9⟩
          have hBf := bt_ hJ.b h9
          clear h9 hJ
          go_wp2
          go_ret
          exact ⟨rfl, hBf⟩
theorem SpacePlays_walk (w : World) (slots : Int) (hs : I64 slots) (v : Value) (L : List Ac) (hv : Rk ka w v L) (ask : Int) (ha : I64 ask) :
   Calls Try.prog 6 #[.int .i64 slots, v, .int .i64 ask] w fun e w' => e = .returned (.bool true) ∧ Below w.heap.size w w' := SpacePlays_c slots v L ask w hv
end Go.Proofs.Ytacbenjfiabegaa
