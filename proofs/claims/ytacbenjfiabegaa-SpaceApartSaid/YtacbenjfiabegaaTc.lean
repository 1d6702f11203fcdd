/- The walk of the law SpaceApart. -/
import Derived.Test.YtacbenjfiabegaaTb
namespace Go.Proofs.Ytacbenjfiabegaa
set_option linter.unusedVariables false
set_option linter.unusedSimpArgs false
open Go.RowKit Go.Proofs.YtacbenjfiabegaaW.PrintWords Go.Proofs.Sh

theorem take_same (l : List Bool) (n : Int) : (takeL l n).2.1 = false → (takeL l n).2.2 = l := by
  unfold takeL
  split
  · exact fun _ => rfl
  · split
    · exact fun h => by cases h
    · exact fun _ => rfl
set_option maxRecDepth 100000 in
set_option maxHeartbeats 3200000 in
theorem SpaceApart_c (v : Value) (l : List F) (w : World) (hv : Rb w v l) :
   Calls Try.prog 7 #[v] w fun e w' => e = .returned (.bool true) ∧ Below w.heap.size w w' := by
  obtain ⟨A, c0, rfl⟩ := rk_form hv
  have hlm := kb_len (rk_C hv)
  by_cases h60 : (60 : Int) < l.length
  · have t1 : decide ((60 : Int) < (l.length : Int)) = true := decide_eq_true h60
    go_enter Try.func7, Try.ntmps7
    go_wp2_with fail
    refine (alive21_c w).mono ?_
    rintro e w1 ⟨rfl, h1⟩
    go_wp2
    go_ret
    exact ⟨rfl, h1⟩
  have t1 : decide ((60 : Int) < (l.length : Int)) = false := decide_eq_false h60
  have hr := rk_C hv
  go_enter Try.func7, Try.ntmps7
  go_wp2_with fail
  refine (spNew_c 40 w).mono ?_
  rintro e w1 ⟨b, g, c, rfl, hS, hB⟩
  have hH := Lib.hid Held.start
  generalize List.replicate (newN 40) true = bl at *
  go_wp2_with fail
  go_loopw [4, 24] (fun hv i wr => ∃ (k : Nat) (bl : List Bool) (H : List (Int × Int)), i = .int .i64 k ∧ k ≤ l.length ∧ Sp w wr b g c bl ∧ Oq w wr hv H ∧ H.length ≤ k ∧ Below w.heap.size w wr ∧ Hid (Held bl H)) (fun _ i _ => l.length - (intOf i).toNat)
  case atStart => exact ⟨0, bl, [], rfl, by omega, hS, Own.nil _ _ _ _, by simp, hB, hH⟩
  case round =>
    clear hS hB hH bl
    obtain ⟨k, bl, H, rfl, hk, hS, hO, hHk, hB, hH⟩ := hrel
    obtain ⟨A1, n1, rfl⟩ := rk_form (Own.rk hO)
    by_cases hlt : k < l.length
    · obtain ⟨ad, rfl, d0⟩ := kb_at hr k hlt
      have d0 := pw_cell_below hB d0
      generalize l.getD k 0 = x at *
      have t9 := wrap_n x
      by_cases hbr : 128 ≤ (x.n : Int) ∧ 0 < H.length
      · have t2 : decide ((128 : Int) ≤ (x.n : Int)) = true := decide_eq_true hbr.1
        have t3 : decide ((0 : Int) < (H.length : Int)) = true := decide_eq_true (by omega)
        obtain ⟨g1, c1, e1, _, _⟩ := Oq.form hO hbr.2
        injection e1 with e1 e2 e3
        subst e1 e3
        obtain ⟨j, hj⟩ : ∃ j, j = x.n % H.length := ⟨_, rfl⟩
        have hjl : j < H.length := by rw [hj]; exact Nat.mod_lt _ hbr.2
        have t4 : ((x.n : Int)).tmod (H.length : Int) = (j : Int) := by rw [hj]; exact (Int.tmod_eq_emod_of_nonneg (by omega)).trans (by simp)
        clear hj
        go_upto_region 10 with fail
        obtain ⟨d1, d2, _⟩ := Oq.at hO j hjl
        have hgv := Lib.hid (hH.out.give hjl)
        have hlb := hH.out.len
        generalize hhr : H.getD j dp = r at *
        obtain ⟨r1, r2⟩ := r
        have hS' := Lib.hid hS
        have hB' := Lib.hid hB
        have hO' := Lib.hid hO
        clear hS hB hO hH
        go_region_held3 (fun w' => w'.cell? ⟨g1, j * 2, none⟩ = some (.int .i64 r1) ∧ w'.cell? ⟨g1, j * 2 + 1, none⟩ = some (.int .i64 r2))
          (go_keep)
          (first
          | (go_at_call 33; have hd := below_drew (Below.refl wr.heap.size wr); have hsx := give_c b g c bl r1 r2 w _ (hS'.out.below hd) (below_drew hB'.out); rw [hgv.out.1] at hsx; refine hsx.mono ?_; rintro e w9 ⟨rfl, hS9, hB9, hG9⟩; replace hG9 := World.grownBy.trans (grown_of_below hd _) hG9; have hO9 := Oq.held hO'.out hS'.out hG9; obtain ⟨d1, d2, _⟩ := Oq.at hO9 j hjl; rw [hhr] at d1 d2)
          | fail)
        all_goals
          have hn9 := rk_cap (Own.rk hO9)
          obtain ⟨j1, hj1⟩ : ∃ j1, j1 = j + 1 := ⟨_, rfl⟩
          have t6 : IntKind.i64.wrap ((j : Int) + 1) = (j1 : Int) := by rw [wrapI _ (by omega) (by omega)]; omega
          rw [← hj1] at hgv
          have hcutA := fun W => cutA_q (some ⟨g1, 0, none⟩) H.length n1 j (by omega) hn9 W
          have hcutB := fun W => cutB_q (some ⟨g1, 0, none⟩) H.length n1 j1 (by omega) W
          have hRr := Lib.hid (rq_right (Own.rk hO9) j1 (by omega))
          have hRl := Lib.hid (rq_left (Own.rk hO9) j (by omega))
          generalize (if n1 = j1 then (some ⟨g1, 0, none⟩ : Option Addr) else (some ⟨g1, 0, none⟩ : Option Addr).map (·.add (j1 * 2))) = A2 at *
          generalize hnn : H.length - j1 = nn at *
          generalize hcc : n1 - j1 = cc at *
          have hx1 : Hid (([] : List (Int × Int)).length + (H.take j).length ≤ 1000000) := Lib.hid (by rw [List.length_take]; simp; omega)
          have hx2 : Hid ((H.take j).length + (H.drop j1).length ≤ 1000000) := Lib.hid (by rw [List.length_take, List.length_drop]; omega)
          have hx3 : Hid ((H.take j ++ H.drop j1).length ≤ k + 1) := Lib.hid (by rw [List.length_append, List.length_take, List.length_drop]; omega)
          have hgv2 := Lib.hid hgv.out.2
          generalize H.drop j1 = dr at *
          generalize H.take j = tk at *
          have hBz := Below.refl w9.heap.size w9
          replace hB9 := Lib.hid hB9
          replace hS9 := Lib.hid hS9
          clear hnn hcc hn9 hO9 hgv d1 d2 hj1
          go_upto_region 12 with fail
          go_region_held3 (fun _ => True)
            (trivial)
            (first
            | (refine step_app_q (w0 := w9) (by rfl) (.tmp 53) (.tmp 56) (by rfl) _ [] tk _ (by rfl) (by rfl) (lit_ownQ [] #[] rfl 0 rfl (by decide) (by first | exact Nat.le_refl _ | exact (below_drew (Below.refl _ _)).size)) (Rk.below hRl.out (by first | exact below_alloc (Below.refl _ _) _ | exact below_alloc (below_drew (Below.refl _ _)) _)) (by first | exact below_alloc (Below.refl _ _) _ | exact below_alloc (below_drew (Below.refl _ _)) _) hx1.out ?_; intro v1 y1 ho1 hb1 hg1'; replace ho1 : Oq w9 y1 v1 tk := ho1)
            | (refine step_app_q (w0 := w9) (by rfl) (.tmp 57) (.tmp 61) (by rfl) _ tk dr _ (by rfl) (by rfl) ho1 (Rk.below hRr.out hb1) hb1 hx2.out ?_; intro v2 y2 ho2 hb2 hg2)
            | fail)
          have hSf := hS9.out.below hb2
          have hOf := Own.lower ho2 hB9.out
          have hBf := bt_ hB9.out hb2
          clear ho1 ho2 hb1 hb2 hg1' hg2 hBz hRl hRr hcutA hcutB
          go_wp2
          exact ⟨⟨k + 1, _, _, by go_num, by omega, hSf, hOf, hx3.out, hBf, hgv2⟩, by simp [intOf]; omega⟩
      · have hsp : decide ((128 : Int) ≤ (x.n : Int)) = false ∨ decide ((128 : Int) ≤ (x.n : Int)) = true ∧ decide (0 < H.length) = false := by
          by_cases h1 : 128 ≤ (x.n : Int)
          · exact .inr ⟨decide_eq_true h1, decide_eq_false (by omega)⟩
          · exact .inl (decide_eq_false h1)
        clear hbr
        obtain ⟨m, hm⟩ : ∃ m, m = x.n % 7 + 1 := ⟨_, rfl⟩
        obtain ⟨d, hd⟩ : ∃ d, d = x.n % 7 := ⟨_, rfl⟩
        have hm1 : 1 ≤ m ∧ m ≤ 7 := by omega
        have t10 : ((x.n : Int)).tmod 7 = (d : Int) := by rw [hd]; exact (Int.tmod_eq_emod_of_nonneg (by omega)).trans (by simp)
        have t11 : wrap64 (d : Int) = (d : Int) := by unfold wrap64; omega
        have t12 : IntKind.i64.wrap (1 + (d : Int)) = (m : Int) := by rw [wrapI _ (by omega) (by omega)]; omega
        rcases hsp with t2 | ⟨t2, t3⟩
        · clear hm hd
          go_wp2_with fail
          refine (longest_c _ bl _ hS.rs (by rw [hH.out.len]; decide)).mono ?_
          rintro e w2 ⟨rfl, h2⟩
          replace hS := hS.below h2
          replace hO := Own.below hO h2
          replace hB := bt_ hB h2
          clear h2 d0 t2
          go_wp2_with fail
          have hmx := Lib.hid (take_ok bl (m : Int) (by omega))
          have hsame := Lib.hid (take_same bl (m : Int))
          have htk := Lib.hid (fun h => hH.out.take (n := (m : Int)) (by omega) h)
          refine (take_c b g c bl m w w2 hS hB (by rw [hH.out.len]; decide)).mono ?_
          generalize takeL bl (m : Int) = tk at *
          obtain ⟨at_, ok, bl2⟩ := tk
          rintro e w3 ⟨rfl, hS3, hB3, hG3⟩
          simp only at hS3 hmx hsame htk
          have hO3 := Oq.held hO hS hG3
          have t13 : decide ((m : Int) ≤ maxR (runsL bl)) = ok := hmx.out.symm
          have t14 : (ok != ok) = false := by simp
          generalize maxR (runsL bl) = mx at *
          clear hS hB hO hG3 hmx
          cases ok with
          | false =>
            have hb2 := hsame.out rfl
            subst hb2
            clear hsame htk
            go_wp2
            exact ⟨⟨k + 1, _, H, by go_num, by omega, hS3, hO3, by omega, hB3, hH⟩, by simp [intOf]; omega⟩
          | true =>
            have htk2 := Lib.hid (htk.out rfl)
            have hbnd : 0 ≤ at_ ∧ at_ + m ≤ 40 := ⟨htk2.out.2.2.1, htk2.out.2.2.2⟩
            have hbd := Lib.hid hH.out.ok
            clear hsame hH htk
            go_wp2_with fail
            go_loopw [84] (fun i wq => ∃ q : Nat, q ≤ H.length ∧ i = .int .i64 q ∧ Below w3.heap.size w3 wq) (fun i _ => H.length - (intOf i).toNat)
            case atStart => exact ⟨0, by omega, rfl, Below.refl _ _⟩
            case round =>
              obtain ⟨q, hq, rfl, hBq⟩ := hrel
              have hOq := Own.below hO3 hBq
              by_cases hql : q < H.length
              · obtain ⟨g1, c1, e1, _, _⟩ := Oq.form hOq (by omega)
                injection e1 with e1 e2 e3
                subst e1 e3
                obtain ⟨d1, d2, _⟩ := Oq.at hOq q hql
                have hym : H.getD q dp ∈ H := by rw [List.getD_eq_getElem?_getD, List.getElem?_eq_getElem hql]; exact List.getElem_mem _
                have hno := htk2.out.1 _ hym
                obtain ⟨y1', y2', y3', _⟩ := hbd.out _ hym
                clear hym
                generalize H.getD q dp = y at *
                obtain ⟨y1, y2⟩ := y
                simp only at hno y1' y2' y3'
                have tw1 : IntKind.i64.wrap (y1 + y2) = y1 + y2 := wrapI _ (by omega) (by omega)
                have tw2 : IntKind.i64.wrap (at_ + (m : Int)) = at_ + (m : Int) := wrapI _ (by omega) (by omega)
                have hBy := bt_ hBq (below_alloc (Below.refl wr.heap.size wr) (.cells #[.int .i64 y1, .int .i64 y2] 78))
                have hby := Blk.new wr #[.int .i64 y1, .int .i64 y2] 78
                have ha0 := hby.cell 0 (.int .i64 y1) rfl
                have ha1 := hby.cell 1 (.int .i64 y2) rfl
                clear hOq hby
                by_cases hc : at_ < y1 + y2
                · have tc1 : decide (at_ < y1 + y2) = true := decide_eq_true hc
                  have tc2 : decide (y1 < at_ + (m : Int)) = false := decide_eq_false (by omega)
                  clear hno hc
                  go_wp2
                  exact ⟨⟨q + 1, by omega, by go_num, hBy⟩, by simp [intOf]; omega⟩
                · have tc1 : decide (at_ < y1 + y2) = false := decide_eq_false hc
                  clear hno hc
                  go_wp2
                  exact ⟨⟨q + 1, by omega, by go_num, hBy⟩, by simp [intOf]; omega⟩
              · obtain rfl : q = H.length := by omega
                have hSq := hS3.below hBq
                have hBf := bt_ hB3 hBq
                have hHf := Lib.hid htk2.out.2.1
                clear hS3 hO3 hB3 hBq hbd htk2
                go_wp2_with (at_builtin; refine app_q rfl (.tmp 104) (.tmp 108) rfl _ H at_ (m : Int) rfl rfl hOq hBf (by omega) ?_; intro v1 w9 ho hb hg; have hSg := hSq.held hOq hg)
                exact ⟨⟨k + 1, _, _, by go_num, by omega, hSg, ho, by simp; omega, hb, hHf⟩, by simp [intOf]; omega⟩
        · have t3' : decide ((0 : Int) < (H.length : Int)) = false := by rw [← t3]; exact decide_eq_decide.2 (by omega)
          clear hm hd
          go_wp2_with fail
          refine (longest_c _ bl _ hS.rs (by rw [hH.out.len]; decide)).mono ?_
          rintro e w2 ⟨rfl, h2⟩
          replace hS := hS.below h2
          replace hO := Own.below hO h2
          replace hB := bt_ hB h2
          clear h2 d0 t2
          go_wp2_with fail
          have hmx := Lib.hid (take_ok bl (m : Int) (by omega))
          have hsame := Lib.hid (take_same bl (m : Int))
          have htk := Lib.hid (fun h => hH.out.take (n := (m : Int)) (by omega) h)
          refine (take_c b g c bl m w w2 hS hB (by rw [hH.out.len]; decide)).mono ?_
          generalize takeL bl (m : Int) = tk at *
          obtain ⟨at_, ok, bl2⟩ := tk
          rintro e w3 ⟨rfl, hS3, hB3, hG3⟩
          simp only at hS3 hmx hsame htk
          have hO3 := Oq.held hO hS hG3
          have t13 : decide ((m : Int) ≤ maxR (runsL bl)) = ok := hmx.out.symm
          have t14 : (ok != ok) = false := by simp
          generalize maxR (runsL bl) = mx at *
          clear hS hB hO hG3 hmx
          cases ok with
          | false =>
            have hb2 := hsame.out rfl
            subst hb2
            clear hsame htk
            go_wp2
            exact ⟨⟨k + 1, _, H, by go_num, by omega, hS3, hO3, by omega, hB3, hH⟩, by simp [intOf]; omega⟩
          | true =>
            have htk2 := Lib.hid (htk.out rfl)
            have hbnd : 0 ≤ at_ ∧ at_ + m ≤ 40 := ⟨htk2.out.2.2.1, htk2.out.2.2.2⟩
            have hbd := Lib.hid hH.out.ok
            clear hsame hH htk
            go_wp2_with fail
            go_loopw [84] (fun i wq => ∃ q : Nat, q ≤ H.length ∧ i = .int .i64 q ∧ Below w3.heap.size w3 wq) (fun i _ => H.length - (intOf i).toNat)
            case atStart => exact ⟨0, by omega, rfl, Below.refl _ _⟩
            case round =>
              obtain ⟨q, hq, rfl, hBq⟩ := hrel
              have hOq := Own.below hO3 hBq
              by_cases hql : q < H.length
              · obtain ⟨g1, c1, e1, _, _⟩ := Oq.form hOq (by omega)
                injection e1 with e1 e2 e3
                subst e1 e3
                obtain ⟨d1, d2, _⟩ := Oq.at hOq q hql
                have hym : H.getD q dp ∈ H := by rw [List.getD_eq_getElem?_getD, List.getElem?_eq_getElem hql]; exact List.getElem_mem _
                have hno := htk2.out.1 _ hym
                obtain ⟨y1', y2', y3', _⟩ := hbd.out _ hym
                clear hym
                generalize H.getD q dp = y at *
                obtain ⟨y1, y2⟩ := y
                simp only at hno y1' y2' y3'
                have tw1 : IntKind.i64.wrap (y1 + y2) = y1 + y2 := wrapI _ (by omega) (by omega)
                have tw2 : IntKind.i64.wrap (at_ + (m : Int)) = at_ + (m : Int) := wrapI _ (by omega) (by omega)
                have hBy := bt_ hBq (below_alloc (Below.refl wr.heap.size wr) (.cells #[.int .i64 y1, .int .i64 y2] 78))
                have hby := Blk.new wr #[.int .i64 y1, .int .i64 y2] 78
                have ha0 := hby.cell 0 (.int .i64 y1) rfl
                have ha1 := hby.cell 1 (.int .i64 y2) rfl
                clear hOq hby
                by_cases hc : at_ < y1 + y2
                · have tc1 : decide (at_ < y1 + y2) = true := decide_eq_true hc
                  have tc2 : decide (y1 < at_ + (m : Int)) = false := decide_eq_false (by omega)
                  clear hno hc
                  go_wp2
                  exact ⟨⟨q + 1, by omega, by go_num, hBy⟩, by simp [intOf]; omega⟩
                · have tc1 : decide (at_ < y1 + y2) = false := decide_eq_false hc
                  clear hno hc
                  go_wp2
                  exact ⟨⟨q + 1, by omega, by go_num, hBy⟩, by simp [intOf]; omega⟩
              · obtain rfl : q = H.length := by omega
                have hSq := hS3.below hBq
                have hBf := bt_ hB3 hBq
                have hHf := Lib.hid htk2.out.2.1
                clear hS3 hO3 hB3 hBq hbd htk2
                go_wp2_with (at_builtin; refine app_q rfl (.tmp 104) (.tmp 108) rfl _ H at_ (m : Int) rfl rfl hOq hBf (by omega) ?_; intro v1 w9 ho hb hg; have hSg := hSq.held hOq hg)
                exact ⟨⟨k + 1, _, _, by go_num, by omega, hSg, ho, by simp; omega, hb, hHf⟩, by simp [intOf]; omega⟩
    · obtain rfl : k = l.length := by omega
      have hcnt := hH.out.cnt
      have hsum := runs_sum bl
      rw [hcnt] at hsum
      have hlb := hH.out.len
      have hbd : ∀ r ∈ H, 0 ≤ r.2 ∧ r.2 ≤ 1000 := fun r hr => by obtain ⟨q1, q2, q3, _⟩ := hH.out.ok r hr; omega
      clear hcnt hH
      go_wp2_with fail
      go_loopw [14, 113] (fun s i wq => ∃ q : Nat, q ≤ H.length ∧ i = .int .i64 q ∧ s = .int .i64 (sumR (H.take q)) ∧ Below wr.heap.size wr wq) (fun _ i _ => H.length - (intOf i).toNat)
      case atStart => exact ⟨0, by omega, rfl, rfl, Below.refl _ _⟩
      case round =>
        obtain ⟨q, hq, rfl, rfl, hBq⟩ := hrel
        by_cases hql : q < H.length
        · have hOq := Own.below hO hBq
          obtain ⟨g1, c1, e1, _, _⟩ := Oq.form hOq (by omega)
          injection e1 with e1 e2 e3
          subst e1 e3
          obtain ⟨d1, d2, _⟩ := Oq.at hOq q hql
          have hbs := sum_bnd H hbd q hq
          have hsn := sum_snoc H q hql
          have hbk := hbd (H.getD q dp) (by rw [List.getD_eq_getElem?_getD, List.getElem?_eq_getElem hql]; exact List.getElem_mem _)
          have tw : IntKind.i64.wrap (sumR (H.take q) + (H.getD q dp).2) = sumR (H.take q) + (H.getD q dp).2 := wrapI _ (by omega) (by omega)
          generalize H.getD q dp = y at *
          obtain ⟨y1, y2⟩ := y
          simp only at hbk hsn tw
          replace hsn := Lib.hid hsn
          have hBy := bt_ hBq (below_alloc (Below.refl wr.heap.size wr) (.cells #[.int .i64 y1, .int .i64 y2] 78))
          have ha1 := (Blk.new wr #[.int .i64 y1, .int .i64 y2] 78).cell 1 (.int .i64 y2) rfl
          generalize sumR (H.take q) = S at *
          replace hbd := Lib.hid hbd
          clear hOq
          go_wp2
          refine ⟨⟨q + 1, by omega, by go_num, ?_, hBy⟩, by simp [intOf]; omega⟩
          rw [hsn.out]
        · obtain rfl : q = H.length := by omega
          rw [List.take_length]
          have hSq := hS.below hBq
          have hBf := bt_ hB hBq
          have hbs := sum_bnd H hbd H.length (Nat.le_refl _)
          rw [List.take_length] at hbs
          have tw : IntKind.i64.wrap (40 - sumR H) = 40 - sumR H := wrapI _ (by omega) (by omega)
          have te : ((40 - sumR H) == (40 - sumR H)) = true := beq_self_eq_true _
          generalize sumR H = S at *
          clear hS hO hB hBq hbd
          go_wp2_with fail
          refine (free_c _ bl _ hSq.rs (by omega)).mono ?_
          rw [hsum]
          rintro e w8 ⟨rfl, h8⟩
          replace hBf := bt_ hBf h8
          go_wp2_with fail
          refine (alive21_c _).mono ?_
          rintro e w9 ⟨rfl, h9⟩
          replace hBf := bt_ hBf h9
          go_wp2
          go_ret
          exact ⟨rfl, hBf⟩
theorem SpaceApart_walk (w : World) (v : Value) (l : List F) (hv : Rb w v l) :
   Calls Try.prog 7 #[v] w fun e w' => e = .returned (.bool true) ∧ Below w.heap.size w w' := SpaceApart_c v l w hv
end Go.Proofs.Ytacbenjfiabegaa
