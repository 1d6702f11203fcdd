/- The walk of the law RebuildTells. -/
import Derived.Test.YtijeabhfddaoaaaL11b
namespace Go.Proofs.Ytijeabhfddaoaaa
set_option linter.unusedVariables false
open Go.RowKit Go.Proofs.YtijeabhfddaoaaaW.PrintWords Go.Proofs.Sh

theorem all_points (p : Pl) (k : Nat) (hk : k < p.N.toNat) : ((allOf p).map point).getD k 0 = point ((k : Int) + 1) := by
  rw [map_getD (allOf p) point 0 0 k (by rw [all_len]; exact hk), all_getD p k hk]
/-- If one share's byte is turned, of custodians more than are needed, they agree no more. -/
theorem tells_not (p : Pl) (h : p.Ok) (K : Nat) (eK : p.T + p.L = K) (hK : K < 255) (a t : List F) (hl : a.length ≤ 240) (hlen : p.T.toNat * F.nS p.L.toNat a.length ≤ t.length) (i : Nat) (hi : i < p.N.toNat) (c : Nat) (hc : c < F.nS p.L.toNat a.length) (x : F) (hx : x ≠ 0) (hKN : K < p.N.toNat) :
    chE p a.length (allOf p) ((List.range p.N.toNat).map fun q => if q = i then (shs p a t i).set c ((shs p a t i).getD c 0 + x) else shs p a t q) = 0 ∧
    ¬ agr (((allOf p).take K).map point) ((allOf p).map point) K ((List.range p.N.toNat).map fun q => if q = i then (shs p a t i).set c ((shs p a t i).getD c 0 + x) else shs p a t q) (F.nS p.L.toNat a.length) := by
  have hsl : ∀ q, (shs p a t q).length = F.nS p.L.toNat a.length := fun q => by unfold shs; rw [F.dshare_len, polys_len]
  have hpn : ((allOf p).map point).Nodup := (List.nodup_append.1 (points_unlike p h)).1
  refine ⟨chE_good h hl (fun j hj => ?_) (all_nodupI p) ?_ (by rw [List.length_map, List.length_range, all_len]) (fun r hr => ?_), ?_⟩
  · unfold allOf at hj
    obtain ⟨q, hq, rfl⟩ := List.mem_map.1 hj
    have := List.mem_range.1 hq
    have := h.t; have := h.l; have := h.tl; have := h.wn
    omega
  · rw [all_len]; omega
  · obtain ⟨q, hq, rfl⟩ := List.mem_map.1 hr
    by_cases e : q = i
    · show (if q = i then (shs p a t i).set c ((shs p a t i).getD c 0 + x) else shs p a t q).length = _
      rw [if_pos e, List.length_set, hsl]
    · show (if q = i then (shs p a t i).set c ((shs p a t i).getD c 0 + x) else shs p a t q).length = _
      rw [if_neg e, hsl]
  · rw [List.map_take]
    refine F.turned_tells ((allOf p).map point) K (F.nS p.L.toNat a.length) (by rw [List.length_map, all_len]; exact hKN) hK hpn (fun j => (polysOf p a t).getD j []) (fun j hj => polys_deg p h K eK a t hlen j hj) _ (by rw [List.length_map, List.length_range, List.length_map, all_len]) i c (by rw [List.length_map, all_len]; exact hi) hc x hx (fun k hk => ?_)
    rw [List.length_map, all_len] at hk
    rw [map_getD (List.range p.N.toNat) _ 0 [] k (by rw [List.length_range]; exact hk), all_points p k hk]
    have ek : (List.range p.N.toNat).getD k 0 = k := by simp [List.getD_eq_getElem?_getD, hk]
    rw [ek]
    have hat : ∀ q, (shs p a t q).getD c 0 = F.ev (point ((q : Int) + 1)) ((polysOf p a t).getD c []) := fun q => F.dshare_at _ _ _ (by rw [polys_len]; exact hc)
    by_cases e : k = i
    · subst e
      rw [if_pos rfl, if_pos rfl, ← hat k, List.getD_eq_getElem?_getD, List.getElem?_set_self (by rw [hsl]; exact hc)]
      rfl
    · rw [if_neg e, if_neg e, hat k, F.add_zero]
set_option maxRecDepth 100000 in
set_option maxHeartbeats 3200000 in
theorem rebuildTells_0 (p : Pl) (va vt : Value) (x0 x1 x2 : F) (a t : List F) (w : World) (ha : Rb w va a) (ht : Rb w vt t) (h : ¬ Lite p) : Calls Try.prog 37 #[planV p, .agg #[va, vt], .agg #[.int .u8 (x0.n : Int), .int .u8 (x1.n : Int), .int .u8 (x2.n : Int)]] w fun e w' => e = .returned (.bool true) ∧ Below w.heap.size w w' := by
  have hL := Lib.hid (decide_eq_false h)
  clear h
  obtain ⟨Aa, ca, rfl⟩ := rk_form ha
  obtain ⟨At, ct, rfl⟩ := rk_form ht
  have HP := ((Blk.new w (planC p) 33).alloc (.cells #[.slice Aa a.length ca, .slice At t.length ct] 103)).alloc (.cells #[.int .u8 (x0.n : Int), .int .u8 (x1.n : Int), .int .u8 (x2.n : Int)] 141)
  have HQ := (Blk.new' (w.alloc (.cells (planC p) 33)) #[.slice Aa a.length ca, .slice At t.length ct] 103 (World.size_alloc _ _)).alloc (.cells #[.int .u8 (x0.n : Int), .int .u8 (x1.n : Int), .int .u8 (x2.n : Int)] 141)
  have HR := Blk.new' ((w.alloc (.cells (planC p) 33)).alloc (.cells #[.slice Aa a.length ca, .slice At t.length ct] 103)) #[.int .u8 (x0.n : Int), .int .u8 (x1.n : Int), .int .u8 (x2.n : Int)] 141 (by rw [World.size_alloc, World.size_alloc])
  have hB := below_alloc (below_alloc (below_alloc (Below.refl w.heap.size w) (.cells (planC p) 33)) (.cells #[.slice Aa a.length ca, .slice At t.length ct] 103)) (.cells #[.int .u8 (x0.n : Int), .int .u8 (x1.n : Int), .int .u8 (x2.n : Int)] 141)
  replace ha := ha.below hB
  replace ht := ht.below hB
  go_enter Try.func37, Try.ntmps37
  go_wp2_with fail
  generalize ((w.alloc (.cells (planC p) 33)).alloc (.cells #[.slice Aa a.length ca, .slice At t.length ct] 103)).alloc (.cells #[.int .u8 (x0.n : Int), .int .u8 (x1.n : Int), .int .u8 (x2.n : Int)] 141) = w1 at *
  have q0 := HQ.cell 0 _ rfl
  have q1 := HQ.cell 1 _ rfl
  go_quiet (fail)
  replace HP := HP.below (pw_below_drewN (Below.refl _ _) nq)
  replace HR := HR.below (pw_below_drewN (Below.refl _ _) nq)
  replace ha := ha.drewN nq
  replace ht := ht.drewN nq
  replace hB := pw_below_drewN hB nq
  clear q0 q1 HQ
  generalize w1.drewN nq = w1' at *
  obtain ⟨c0, c1, c2, c3, c4, c5⟩ := cells6 HP; have r0 : _ = some (Value.int .u8 (x0.n : Int)) := HR.cell 0 _ rfl; have r1 : _ = some (Value.int .u8 (x1.n : Int)) := HR.cell 1 _ rfl; have r2 : _ = some (Value.int .u8 (x2.n : Int)) := HR.cell 2 _ rfl
  go_wp2_with fail
  refine (light_c p _).mono ?_
  rintro e w2 ⟨rfl, h2⟩
  rw [hL.out]
  replace HP := HP.below h2
  replace HR := HR.below h2
  replace hB := bt_ hB h2
  replace ha := ha.below h2
  replace ht := ht.below h2
  clear c0 c1 c2 c3 c4 c5 r0 r1 r2
  obtain ⟨c0, c1, c2, c3, c4, c5⟩ := cells6 HP; have r0 : _ = some (Value.int .u8 (x0.n : Int)) := HR.cell 0 _ rfl; have r1 : _ = some (Value.int .u8 (x1.n : Int)) := HR.cell 1 _ rfl; have r2 : _ = some (Value.int .u8 (x2.n : Int)) := HR.cell 2 _ rfl
  clear h2
  go_wp2_with fail
  refine (alive11 _).mono ?_
  rintro e w9 ⟨rfl, h⟩
  have hB := bt_ hB h
  clear h
  go_wp2
  go_ret
  exact ⟨rfl, hB⟩
set_option maxRecDepth 100000 in
set_option maxHeartbeats 3200000 in
theorem rebuildTells_1 (p : Pl) (va vt : Value) (x0 x1 x2 : F) (a t : List F) (w : World) (ha : Rb w va a) (ht : Rb w vt t) (hi : p.In) (hL0 : Lite p) (h : ¬ p.Ok) : Calls Try.prog 37 #[planV p, .agg #[va, vt], .agg #[.int .u8 (x0.n : Int), .int .u8 (x1.n : Int), .int .u8 (x2.n : Int)]] w fun e w' => e = .returned (.bool true) ∧ Below w.heap.size w w' := by
  have hL := Lib.hid (decide_eq_true hL0)
  obtain ⟨Aa, ca, rfl⟩ := rk_form ha
  obtain ⟨At, ct, rfl⟩ := rk_form ht
  have HP := ((Blk.new w (planC p) 33).alloc (.cells #[.slice Aa a.length ca, .slice At t.length ct] 103)).alloc (.cells #[.int .u8 (x0.n : Int), .int .u8 (x1.n : Int), .int .u8 (x2.n : Int)] 141)
  have HQ := (Blk.new' (w.alloc (.cells (planC p) 33)) #[.slice Aa a.length ca, .slice At t.length ct] 103 (World.size_alloc _ _)).alloc (.cells #[.int .u8 (x0.n : Int), .int .u8 (x1.n : Int), .int .u8 (x2.n : Int)] 141)
  have HR := Blk.new' ((w.alloc (.cells (planC p) 33)).alloc (.cells #[.slice Aa a.length ca, .slice At t.length ct] 103)) #[.int .u8 (x0.n : Int), .int .u8 (x1.n : Int), .int .u8 (x2.n : Int)] 141 (by rw [World.size_alloc, World.size_alloc])
  have hB := below_alloc (below_alloc (below_alloc (Below.refl w.heap.size w) (.cells (planC p) 33)) (.cells #[.slice Aa a.length ca, .slice At t.length ct] 103)) (.cells #[.int .u8 (x0.n : Int), .int .u8 (x1.n : Int), .int .u8 (x2.n : Int)] 141)
  replace ha := ha.below hB
  replace ht := ht.below hB
  go_enter Try.func37, Try.ntmps37
  go_wp2_with fail
  generalize ((w.alloc (.cells (planC p) 33)).alloc (.cells #[.slice Aa a.length ca, .slice At t.length ct] 103)).alloc (.cells #[.int .u8 (x0.n : Int), .int .u8 (x1.n : Int), .int .u8 (x2.n : Int)] 141) = w1 at *
  have q0 := HQ.cell 0 _ rfl
  have q1 := HQ.cell 1 _ rfl
  go_quiet (fail)
  replace HP := HP.below (pw_below_drewN (Below.refl _ _) nq)
  replace HR := HR.below (pw_below_drewN (Below.refl _ _) nq)
  replace ha := ha.drewN nq
  replace ht := ht.drewN nq
  replace hB := pw_below_drewN hB nq
  clear q0 q1 HQ
  generalize w1.drewN nq = w1' at *
  obtain ⟨c0, c1, c2, c3, c4, c5⟩ := cells6 HP; have r0 : _ = some (Value.int .u8 (x0.n : Int)) := HR.cell 0 _ rfl; have r1 : _ = some (Value.int .u8 (x1.n : Int)) := HR.cell 1 _ rfl; have r2 : _ = some (Value.int .u8 (x2.n : Int)) := HR.cell 2 _ rfl
  go_wp2_with fail
  refine (light_c p _).mono ?_
  rintro e w2 ⟨rfl, h2⟩
  rw [hL.out]
  replace HP := HP.below h2
  replace HR := HR.below h2
  replace hB := bt_ hB h2
  replace ha := ha.below h2
  replace ht := ht.below h2
  clear c0 c1 c2 c3 c4 c5 r0 r1 r2
  obtain ⟨c0, c1, c2, c3, c4, c5⟩ := cells6 HP; have r0 : _ = some (Value.int .u8 (x0.n : Int)) := HR.cell 0 _ rfl; have r1 : _ = some (Value.int .u8 (x1.n : Int)) := HR.cell 1 _ rfl; have r2 : _ = some (Value.int .u8 (x2.n : Int)) := HR.cell 2 _ rfl
  clear h2
  go_wp2_with fail
  refine (rRight_no p hi h _).mono ?_
  rintro e w3 ⟨rfl, h3⟩
  replace hB := bt_ hB h3
  go_wp2_with fail
  refine (alive11 _).mono ?_
  rintro e w9 ⟨rfl, h⟩
  have hB := bt_ hB h
  clear h
  go_wp2
  go_ret
  exact ⟨rfl, hB⟩
set_option maxRecDepth 100000 in
set_option maxHeartbeats 3200000 in
theorem rebuildTells_2 (p : Pl) (va vt : Value) (x0 x1 x2 : F) (a t : List F) (w : World) (ha : Rb w va a) (ht : Rb w vt t) (hL0 : Lite p) (h : p.Ok) (hx : ¬ (a.length ≤ 60 ∧ a.length ≠ 0)) : Calls Try.prog 37 #[planV p, .agg #[va, vt], .agg #[.int .u8 (x0.n : Int), .int .u8 (x1.n : Int), .int .u8 (x2.n : Int)]] w fun e w' => e = .returned (.bool true) ∧ Below w.heap.size w w' := by
  have hL := Lib.hid (decide_eq_true hL0)
  by_cases h1 : a.length ≤ 60
  · have t3 : decide ((60 : Int) < (a.length : Int)) = false := decide_eq_false (by omega)
    have h0 : a.length = 0 := Classical.byContradiction (fun e => hx ⟨h1, e⟩)
    have t0 : ((a.length : Int) == 0) = true := by rw [h0]; rfl
    clear hx h1 h0
    obtain ⟨Aa, ca, rfl⟩ := rk_form ha
    obtain ⟨At, ct, rfl⟩ := rk_form ht
    have HP := ((Blk.new w (planC p) 33).alloc (.cells #[.slice Aa a.length ca, .slice At t.length ct] 103)).alloc (.cells #[.int .u8 (x0.n : Int), .int .u8 (x1.n : Int), .int .u8 (x2.n : Int)] 141)
    have HQ := (Blk.new' (w.alloc (.cells (planC p) 33)) #[.slice Aa a.length ca, .slice At t.length ct] 103 (World.size_alloc _ _)).alloc (.cells #[.int .u8 (x0.n : Int), .int .u8 (x1.n : Int), .int .u8 (x2.n : Int)] 141)
    have HR := Blk.new' ((w.alloc (.cells (planC p) 33)).alloc (.cells #[.slice Aa a.length ca, .slice At t.length ct] 103)) #[.int .u8 (x0.n : Int), .int .u8 (x1.n : Int), .int .u8 (x2.n : Int)] 141 (by rw [World.size_alloc, World.size_alloc])
    have hB := below_alloc (below_alloc (below_alloc (Below.refl w.heap.size w) (.cells (planC p) 33)) (.cells #[.slice Aa a.length ca, .slice At t.length ct] 103)) (.cells #[.int .u8 (x0.n : Int), .int .u8 (x1.n : Int), .int .u8 (x2.n : Int)] 141)
    replace ha := ha.below hB
    replace ht := ht.below hB
    go_enter Try.func37, Try.ntmps37
    go_wp2_with fail
    generalize ((w.alloc (.cells (planC p) 33)).alloc (.cells #[.slice Aa a.length ca, .slice At t.length ct] 103)).alloc (.cells #[.int .u8 (x0.n : Int), .int .u8 (x1.n : Int), .int .u8 (x2.n : Int)] 141) = w1 at *
    have q0 := HQ.cell 0 _ rfl
    have q1 := HQ.cell 1 _ rfl
    go_quiet (fail)
    replace HP := HP.below (pw_below_drewN (Below.refl _ _) nq)
    replace HR := HR.below (pw_below_drewN (Below.refl _ _) nq)
    replace ha := ha.drewN nq
    replace ht := ht.drewN nq
    replace hB := pw_below_drewN hB nq
    clear q0 q1 HQ
    generalize w1.drewN nq = w1' at *
    obtain ⟨c0, c1, c2, c3, c4, c5⟩ := cells6 HP; have r0 : _ = some (Value.int .u8 (x0.n : Int)) := HR.cell 0 _ rfl; have r1 : _ = some (Value.int .u8 (x1.n : Int)) := HR.cell 1 _ rfl; have r2 : _ = some (Value.int .u8 (x2.n : Int)) := HR.cell 2 _ rfl
    go_wp2_with fail
    refine (light_c p _).mono ?_
    rintro e w2 ⟨rfl, h2⟩
    rw [hL.out]
    replace HP := HP.below h2
    replace HR := HR.below h2
    replace hB := bt_ hB h2
    replace ha := ha.below h2
    replace ht := ht.below h2
    clear c0 c1 c2 c3 c4 c5 r0 r1 r2
    obtain ⟨c0, c1, c2, c3, c4, c5⟩ := cells6 HP; have r0 : _ = some (Value.int .u8 (x0.n : Int)) := HR.cell 0 _ rfl; have r1 : _ = some (Value.int .u8 (x1.n : Int)) := HR.cell 1 _ rfl; have r2 : _ = some (Value.int .u8 (x2.n : Int)) := HR.cell 2 _ rfl
    clear h2
    go_wp2_with fail
    refine (rRight_yes p h _).mono ?_
    rintro e w3 ⟨rfl, h3⟩
    replace HP := HP.below h3
    replace HR := HR.below h3
    replace hB := bt_ hB h3
    replace ha := ha.below h3
    replace ht := ht.below h3
    clear c0 c1 c2 c3 c4 c5 r0 r1 r2
    obtain ⟨c0, c1, c2, c3, c4, c5⟩ := cells6 HP; have r0 : _ = some (Value.int .u8 (x0.n : Int)) := HR.cell 0 _ rfl; have r1 : _ = some (Value.int .u8 (x1.n : Int)) := HR.cell 1 _ rfl; have r2 : _ = some (Value.int .u8 (x2.n : Int)) := HR.cell 2 _ rfl
    clear h3
    go_wp2_with fail
    refine (alive11 _).mono ?_
    rintro e w9 ⟨rfl, h⟩
    have hB := bt_ hB h
    clear h
    go_wp2
    go_ret
    exact ⟨rfl, hB⟩
  · have t3 : (60 : Int) < (a.length : Int) := by omega
    clear hx h1
    obtain ⟨Aa, ca, rfl⟩ := rk_form ha
    obtain ⟨At, ct, rfl⟩ := rk_form ht
    have HP := ((Blk.new w (planC p) 33).alloc (.cells #[.slice Aa a.length ca, .slice At t.length ct] 103)).alloc (.cells #[.int .u8 (x0.n : Int), .int .u8 (x1.n : Int), .int .u8 (x2.n : Int)] 141)
    have HQ := (Blk.new' (w.alloc (.cells (planC p) 33)) #[.slice Aa a.length ca, .slice At t.length ct] 103 (World.size_alloc _ _)).alloc (.cells #[.int .u8 (x0.n : Int), .int .u8 (x1.n : Int), .int .u8 (x2.n : Int)] 141)
    have HR := Blk.new' ((w.alloc (.cells (planC p) 33)).alloc (.cells #[.slice Aa a.length ca, .slice At t.length ct] 103)) #[.int .u8 (x0.n : Int), .int .u8 (x1.n : Int), .int .u8 (x2.n : Int)] 141 (by rw [World.size_alloc, World.size_alloc])
    have hB := below_alloc (below_alloc (below_alloc (Below.refl w.heap.size w) (.cells (planC p) 33)) (.cells #[.slice Aa a.length ca, .slice At t.length ct] 103)) (.cells #[.int .u8 (x0.n : Int), .int .u8 (x1.n : Int), .int .u8 (x2.n : Int)] 141)
    replace ha := ha.below hB
    replace ht := ht.below hB
    go_enter Try.func37, Try.ntmps37
    go_wp2_with fail
    generalize ((w.alloc (.cells (planC p) 33)).alloc (.cells #[.slice Aa a.length ca, .slice At t.length ct] 103)).alloc (.cells #[.int .u8 (x0.n : Int), .int .u8 (x1.n : Int), .int .u8 (x2.n : Int)] 141) = w1 at *
    have q0 := HQ.cell 0 _ rfl
    have q1 := HQ.cell 1 _ rfl
    go_quiet (fail)
    replace HP := HP.below (pw_below_drewN (Below.refl _ _) nq)
    replace HR := HR.below (pw_below_drewN (Below.refl _ _) nq)
    replace ha := ha.drewN nq
    replace ht := ht.drewN nq
    replace hB := pw_below_drewN hB nq
    clear q0 q1 HQ
    generalize w1.drewN nq = w1' at *
    obtain ⟨c0, c1, c2, c3, c4, c5⟩ := cells6 HP; have r0 : _ = some (Value.int .u8 (x0.n : Int)) := HR.cell 0 _ rfl; have r1 : _ = some (Value.int .u8 (x1.n : Int)) := HR.cell 1 _ rfl; have r2 : _ = some (Value.int .u8 (x2.n : Int)) := HR.cell 2 _ rfl
    go_wp2_with fail
    refine (light_c p _).mono ?_
    rintro e w2 ⟨rfl, h2⟩
    rw [hL.out]
    replace HP := HP.below h2
    replace HR := HR.below h2
    replace hB := bt_ hB h2
    replace ha := ha.below h2
    replace ht := ht.below h2
    clear c0 c1 c2 c3 c4 c5 r0 r1 r2
    obtain ⟨c0, c1, c2, c3, c4, c5⟩ := cells6 HP; have r0 : _ = some (Value.int .u8 (x0.n : Int)) := HR.cell 0 _ rfl; have r1 : _ = some (Value.int .u8 (x1.n : Int)) := HR.cell 1 _ rfl; have r2 : _ = some (Value.int .u8 (x2.n : Int)) := HR.cell 2 _ rfl
    clear h2
    go_wp2_with fail
    refine (rRight_yes p h _).mono ?_
    rintro e w3 ⟨rfl, h3⟩
    replace HP := HP.below h3
    replace HR := HR.below h3
    replace hB := bt_ hB h3
    replace ha := ha.below h3
    replace ht := ht.below h3
    clear c0 c1 c2 c3 c4 c5 r0 r1 r2
    obtain ⟨c0, c1, c2, c3, c4, c5⟩ := cells6 HP; have r0 : _ = some (Value.int .u8 (x0.n : Int)) := HR.cell 0 _ rfl; have r1 : _ = some (Value.int .u8 (x1.n : Int)) := HR.cell 1 _ rfl; have r2 : _ = some (Value.int .u8 (x2.n : Int)) := HR.cell 2 _ rfl
    clear h3
    go_wp2_with fail
    refine (alive11 _).mono ?_
    rintro e w9 ⟨rfl, h⟩
    have hB := bt_ hB h
    clear h
    go_wp2
    go_ret
    exact ⟨rfl, hB⟩
set_option maxRecDepth 100000 in
set_option maxHeartbeats 3200000 in
theorem rebuildTells_3 (p : Pl) (va vt : Value) (x0 x1 x2 : F) (a t : List F) (w : World) (ha : Rb w va a) (ht : Rb w vt t) (hL0 : Lite p) (h : p.Ok) (h1 : a.length ≤ 60) (h0 : a.length ≠ 0) (n : Nat) (hn : p.T.toNat * F.nS p.L.toNat a.length = n) (K : Nat) (eK : p.T + p.L = K) (hx : ¬ (n ≤ t.length ∧ p.N ≠ K ∧ x2 ≠ 0)) : Calls Try.prog 37 #[planV p, .agg #[va, vt], .agg #[.int .u8 (x0.n : Int), .int .u8 (x1.n : Int), .int .u8 (x2.n : Int)]] w fun e w' => e = .returned (.bool true) ∧ Below w.heap.size w w' := by
  have hL := Lib.hid (decide_eq_true hL0)
  have hl : a.length ≤ 240 := by omega
  have t3 : decide ((60 : Int) < (a.length : Int)) = false := decide_eq_false (by omega)
  have t0 : ((a.length : Int) == 0) = false := beq_eq_false_iff_ne.2 (by omega)
  have hcost := Lib.hid (cost_nat h hn)
  have u1 : IntKind.i64.wrap (p.T + p.L) = (K : Int) := by rw [eK]; exact wrapI _ (by omega) (by have := hL0.2.1; have := hL0.2.2; omega)
  by_cases h2 : n ≤ t.length
  · have t5 : ¬ t.length < n := by omega
    by_cases h3 : p.N = K
    · have tK : (p.N == (K : Int)) = true := by rw [h3]; simp
      clear hx h2 hn eK h3
      obtain ⟨Aa, ca, rfl⟩ := rk_form ha
      obtain ⟨At, ct, rfl⟩ := rk_form ht
      have HP := ((Blk.new w (planC p) 33).alloc (.cells #[.slice Aa a.length ca, .slice At t.length ct] 103)).alloc (.cells #[.int .u8 (x0.n : Int), .int .u8 (x1.n : Int), .int .u8 (x2.n : Int)] 141)
      have HQ := (Blk.new' (w.alloc (.cells (planC p) 33)) #[.slice Aa a.length ca, .slice At t.length ct] 103 (World.size_alloc _ _)).alloc (.cells #[.int .u8 (x0.n : Int), .int .u8 (x1.n : Int), .int .u8 (x2.n : Int)] 141)
      have HR := Blk.new' ((w.alloc (.cells (planC p) 33)).alloc (.cells #[.slice Aa a.length ca, .slice At t.length ct] 103)) #[.int .u8 (x0.n : Int), .int .u8 (x1.n : Int), .int .u8 (x2.n : Int)] 141 (by rw [World.size_alloc, World.size_alloc])
      have hB := below_alloc (below_alloc (below_alloc (Below.refl w.heap.size w) (.cells (planC p) 33)) (.cells #[.slice Aa a.length ca, .slice At t.length ct] 103)) (.cells #[.int .u8 (x0.n : Int), .int .u8 (x1.n : Int), .int .u8 (x2.n : Int)] 141)
      replace ha := ha.below hB
      replace ht := ht.below hB
      go_enter Try.func37, Try.ntmps37
      go_wp2_with fail
      generalize ((w.alloc (.cells (planC p) 33)).alloc (.cells #[.slice Aa a.length ca, .slice At t.length ct] 103)).alloc (.cells #[.int .u8 (x0.n : Int), .int .u8 (x1.n : Int), .int .u8 (x2.n : Int)] 141) = w1 at *
      have q0 := HQ.cell 0 _ rfl
      have q1 := HQ.cell 1 _ rfl
      go_quiet (fail)
      replace HP := HP.below (pw_below_drewN (Below.refl _ _) nq)
      replace HR := HR.below (pw_below_drewN (Below.refl _ _) nq)
      replace ha := ha.drewN nq
      replace ht := ht.drewN nq
      replace hB := pw_below_drewN hB nq
      clear q0 q1 HQ
      generalize w1.drewN nq = w1' at *
      obtain ⟨c0, c1, c2, c3, c4, c5⟩ := cells6 HP; have r0 : _ = some (Value.int .u8 (x0.n : Int)) := HR.cell 0 _ rfl; have r1 : _ = some (Value.int .u8 (x1.n : Int)) := HR.cell 1 _ rfl; have r2 : _ = some (Value.int .u8 (x2.n : Int)) := HR.cell 2 _ rfl
      go_wp2_with fail
      refine (light_c p _).mono ?_
      rintro e w2 ⟨rfl, h2⟩
      rw [hL.out]
      replace HP := HP.below h2
      replace HR := HR.below h2
      replace hB := bt_ hB h2
      replace ha := ha.below h2
      replace ht := ht.below h2
      clear c0 c1 c2 c3 c4 c5 r0 r1 r2
      obtain ⟨c0, c1, c2, c3, c4, c5⟩ := cells6 HP; have r0 : _ = some (Value.int .u8 (x0.n : Int)) := HR.cell 0 _ rfl; have r1 : _ = some (Value.int .u8 (x1.n : Int)) := HR.cell 1 _ rfl; have r2 : _ = some (Value.int .u8 (x2.n : Int)) := HR.cell 2 _ rfl
      clear h2
      go_wp2_with fail
      refine (rRight_yes p h _).mono ?_
      rintro e w3 ⟨rfl, h3⟩
      replace HP := HP.below h3
      replace HR := HR.below h3
      replace hB := bt_ hB h3
      replace ha := ha.below h3
      replace ht := ht.below h3
      clear c0 c1 c2 c3 c4 c5 r0 r1 r2
      obtain ⟨c0, c1, c2, c3, c4, c5⟩ := cells6 HP; have r0 : _ = some (Value.int .u8 (x0.n : Int)) := HR.cell 0 _ rfl; have r1 : _ = some (Value.int .u8 (x1.n : Int)) := HR.cell 1 _ rfl; have r2 : _ = some (Value.int .u8 (x2.n : Int)) := HR.cell 2 _ rfl
      clear h3
      go_wp2_with fail
      refine (rCost_c p h a.length hl _).mono ?_
      rintro e w4 ⟨rfl, h4⟩
      rw [hcost.out]
      replace HP := HP.below h4
      replace HR := HR.below h4
      replace hB := bt_ hB h4
      replace ha := ha.below h4
      replace ht := ht.below h4
      clear c0 c1 c2 c3 c4 c5 r0 r1 r2
      obtain ⟨c0, c1, c2, c3, c4, c5⟩ := cells6 HP; have r0 : _ = some (Value.int .u8 (x0.n : Int)) := HR.cell 0 _ rfl; have r1 : _ = some (Value.int .u8 (x1.n : Int)) := HR.cell 1 _ rfl; have r2 : _ = some (Value.int .u8 (x2.n : Int)) := HR.cell 2 _ rfl
      clear h4
      go_wp2_with fail
      refine (alive11 _).mono ?_
      rintro e w9 ⟨rfl, h⟩
      have hB := bt_ hB h
      clear h
      go_wp2
      go_ret
      exact ⟨rfl, hB⟩
    · have tK : (p.N == (K : Int)) = false := beq_eq_false_iff_ne.2 h3
      have hz : x2 = 0 := Classical.byContradiction (fun e => hx ⟨h2, h3, e⟩)
      have tz : ((x2.n : Int) == 0) = true := by rw [hz]; rfl
      clear hx h2 hn eK h3 hz
      obtain ⟨Aa, ca, rfl⟩ := rk_form ha
      obtain ⟨At, ct, rfl⟩ := rk_form ht
      have HP := ((Blk.new w (planC p) 33).alloc (.cells #[.slice Aa a.length ca, .slice At t.length ct] 103)).alloc (.cells #[.int .u8 (x0.n : Int), .int .u8 (x1.n : Int), .int .u8 (x2.n : Int)] 141)
      have HQ := (Blk.new' (w.alloc (.cells (planC p) 33)) #[.slice Aa a.length ca, .slice At t.length ct] 103 (World.size_alloc _ _)).alloc (.cells #[.int .u8 (x0.n : Int), .int .u8 (x1.n : Int), .int .u8 (x2.n : Int)] 141)
      have HR := Blk.new' ((w.alloc (.cells (planC p) 33)).alloc (.cells #[.slice Aa a.length ca, .slice At t.length ct] 103)) #[.int .u8 (x0.n : Int), .int .u8 (x1.n : Int), .int .u8 (x2.n : Int)] 141 (by rw [World.size_alloc, World.size_alloc])
      have hB := below_alloc (below_alloc (below_alloc (Below.refl w.heap.size w) (.cells (planC p) 33)) (.cells #[.slice Aa a.length ca, .slice At t.length ct] 103)) (.cells #[.int .u8 (x0.n : Int), .int .u8 (x1.n : Int), .int .u8 (x2.n : Int)] 141)
      replace ha := ha.below hB
      replace ht := ht.below hB
      go_enter Try.func37, Try.ntmps37
      go_wp2_with fail
      generalize ((w.alloc (.cells (planC p) 33)).alloc (.cells #[.slice Aa a.length ca, .slice At t.length ct] 103)).alloc (.cells #[.int .u8 (x0.n : Int), .int .u8 (x1.n : Int), .int .u8 (x2.n : Int)] 141) = w1 at *
      have q0 := HQ.cell 0 _ rfl
      have q1 := HQ.cell 1 _ rfl
      go_quiet (fail)
      replace HP := HP.below (pw_below_drewN (Below.refl _ _) nq)
      replace HR := HR.below (pw_below_drewN (Below.refl _ _) nq)
      replace ha := ha.drewN nq
      replace ht := ht.drewN nq
      replace hB := pw_below_drewN hB nq
      clear q0 q1 HQ
      generalize w1.drewN nq = w1' at *
      obtain ⟨c0, c1, c2, c3, c4, c5⟩ := cells6 HP; have r0 : _ = some (Value.int .u8 (x0.n : Int)) := HR.cell 0 _ rfl; have r1 : _ = some (Value.int .u8 (x1.n : Int)) := HR.cell 1 _ rfl; have r2 : _ = some (Value.int .u8 (x2.n : Int)) := HR.cell 2 _ rfl
      go_wp2_with fail
      refine (light_c p _).mono ?_
      rintro e w2 ⟨rfl, h2⟩
      rw [hL.out]
      replace HP := HP.below h2
      replace HR := HR.below h2
      replace hB := bt_ hB h2
      replace ha := ha.below h2
      replace ht := ht.below h2
      clear c0 c1 c2 c3 c4 c5 r0 r1 r2
      obtain ⟨c0, c1, c2, c3, c4, c5⟩ := cells6 HP; have r0 : _ = some (Value.int .u8 (x0.n : Int)) := HR.cell 0 _ rfl; have r1 : _ = some (Value.int .u8 (x1.n : Int)) := HR.cell 1 _ rfl; have r2 : _ = some (Value.int .u8 (x2.n : Int)) := HR.cell 2 _ rfl
      clear h2
      go_wp2_with fail
      refine (rRight_yes p h _).mono ?_
      rintro e w3 ⟨rfl, h3⟩
      replace HP := HP.below h3
      replace HR := HR.below h3
      replace hB := bt_ hB h3
      replace ha := ha.below h3
      replace ht := ht.below h3
      clear c0 c1 c2 c3 c4 c5 r0 r1 r2
      obtain ⟨c0, c1, c2, c3, c4, c5⟩ := cells6 HP; have r0 : _ = some (Value.int .u8 (x0.n : Int)) := HR.cell 0 _ rfl; have r1 : _ = some (Value.int .u8 (x1.n : Int)) := HR.cell 1 _ rfl; have r2 : _ = some (Value.int .u8 (x2.n : Int)) := HR.cell 2 _ rfl
      clear h3
      go_wp2_with fail
      refine (rCost_c p h a.length hl _).mono ?_
      rintro e w4 ⟨rfl, h4⟩
      rw [hcost.out]
      replace HP := HP.below h4
      replace HR := HR.below h4
      replace hB := bt_ hB h4
      replace ha := ha.below h4
      replace ht := ht.below h4
      clear c0 c1 c2 c3 c4 c5 r0 r1 r2
      obtain ⟨c0, c1, c2, c3, c4, c5⟩ := cells6 HP; have r0 : _ = some (Value.int .u8 (x0.n : Int)) := HR.cell 0 _ rfl; have r1 : _ = some (Value.int .u8 (x1.n : Int)) := HR.cell 1 _ rfl; have r2 : _ = some (Value.int .u8 (x2.n : Int)) := HR.cell 2 _ rfl
      clear h4
      go_wp2_with fail
      refine (alive11 _).mono ?_
      rintro e w9 ⟨rfl, h⟩
      have hB := bt_ hB h
      clear h
      go_wp2
      go_ret
      exact ⟨rfl, hB⟩
  · have t5 : t.length < n := by omega
    clear hx h2 hn eK
    obtain ⟨Aa, ca, rfl⟩ := rk_form ha
    obtain ⟨At, ct, rfl⟩ := rk_form ht
    have HP := ((Blk.new w (planC p) 33).alloc (.cells #[.slice Aa a.length ca, .slice At t.length ct] 103)).alloc (.cells #[.int .u8 (x0.n : Int), .int .u8 (x1.n : Int), .int .u8 (x2.n : Int)] 141)
    have HQ := (Blk.new' (w.alloc (.cells (planC p) 33)) #[.slice Aa a.length ca, .slice At t.length ct] 103 (World.size_alloc _ _)).alloc (.cells #[.int .u8 (x0.n : Int), .int .u8 (x1.n : Int), .int .u8 (x2.n : Int)] 141)
    have HR := Blk.new' ((w.alloc (.cells (planC p) 33)).alloc (.cells #[.slice Aa a.length ca, .slice At t.length ct] 103)) #[.int .u8 (x0.n : Int), .int .u8 (x1.n : Int), .int .u8 (x2.n : Int)] 141 (by rw [World.size_alloc, World.size_alloc])
    have hB := below_alloc (below_alloc (below_alloc (Below.refl w.heap.size w) (.cells (planC p) 33)) (.cells #[.slice Aa a.length ca, .slice At t.length ct] 103)) (.cells #[.int .u8 (x0.n : Int), .int .u8 (x1.n : Int), .int .u8 (x2.n : Int)] 141)
    replace ha := ha.below hB
    replace ht := ht.below hB
    go_enter Try.func37, Try.ntmps37
    go_wp2_with fail
    generalize ((w.alloc (.cells (planC p) 33)).alloc (.cells #[.slice Aa a.length ca, .slice At t.length ct] 103)).alloc (.cells #[.int .u8 (x0.n : Int), .int .u8 (x1.n : Int), .int .u8 (x2.n : Int)] 141) = w1 at *
    have q0 := HQ.cell 0 _ rfl
    have q1 := HQ.cell 1 _ rfl
    go_quiet (fail)
    replace HP := HP.below (pw_below_drewN (Below.refl _ _) nq)
    replace HR := HR.below (pw_below_drewN (Below.refl _ _) nq)
    replace ha := ha.drewN nq
    replace ht := ht.drewN nq
    replace hB := pw_below_drewN hB nq
    clear q0 q1 HQ
    generalize w1.drewN nq = w1' at *
    obtain ⟨c0, c1, c2, c3, c4, c5⟩ := cells6 HP; have r0 : _ = some (Value.int .u8 (x0.n : Int)) := HR.cell 0 _ rfl; have r1 : _ = some (Value.int .u8 (x1.n : Int)) := HR.cell 1 _ rfl; have r2 : _ = some (Value.int .u8 (x2.n : Int)) := HR.cell 2 _ rfl
    go_wp2_with fail
    refine (light_c p _).mono ?_
    rintro e w2 ⟨rfl, h2⟩
    rw [hL.out]
    replace HP := HP.below h2
    replace HR := HR.below h2
    replace hB := bt_ hB h2
    replace ha := ha.below h2
    replace ht := ht.below h2
    clear c0 c1 c2 c3 c4 c5 r0 r1 r2
    obtain ⟨c0, c1, c2, c3, c4, c5⟩ := cells6 HP; have r0 : _ = some (Value.int .u8 (x0.n : Int)) := HR.cell 0 _ rfl; have r1 : _ = some (Value.int .u8 (x1.n : Int)) := HR.cell 1 _ rfl; have r2 : _ = some (Value.int .u8 (x2.n : Int)) := HR.cell 2 _ rfl
    clear h2
    go_wp2_with fail
    refine (rRight_yes p h _).mono ?_
    rintro e w3 ⟨rfl, h3⟩
    replace HP := HP.below h3
    replace HR := HR.below h3
    replace hB := bt_ hB h3
    replace ha := ha.below h3
    replace ht := ht.below h3
    clear c0 c1 c2 c3 c4 c5 r0 r1 r2
    obtain ⟨c0, c1, c2, c3, c4, c5⟩ := cells6 HP; have r0 : _ = some (Value.int .u8 (x0.n : Int)) := HR.cell 0 _ rfl; have r1 : _ = some (Value.int .u8 (x1.n : Int)) := HR.cell 1 _ rfl; have r2 : _ = some (Value.int .u8 (x2.n : Int)) := HR.cell 2 _ rfl
    clear h3
    go_wp2_with fail
    refine (rCost_c p h a.length hl _).mono ?_
    rintro e w4 ⟨rfl, h4⟩
    rw [hcost.out]
    replace HP := HP.below h4
    replace HR := HR.below h4
    replace hB := bt_ hB h4
    replace ha := ha.below h4
    replace ht := ht.below h4
    clear c0 c1 c2 c3 c4 c5 r0 r1 r2
    obtain ⟨c0, c1, c2, c3, c4, c5⟩ := cells6 HP; have r0 : _ = some (Value.int .u8 (x0.n : Int)) := HR.cell 0 _ rfl; have r1 : _ = some (Value.int .u8 (x1.n : Int)) := HR.cell 1 _ rfl; have r2 : _ = some (Value.int .u8 (x2.n : Int)) := HR.cell 2 _ rfl
    clear h4
    go_wp2_with fail
    refine (alive11 _).mono ?_
    rintro e w9 ⟨rfl, h⟩
    have hB := bt_ hB h
    clear h
    go_wp2
    go_ret
    exact ⟨rfl, hB⟩
set_option maxRecDepth 100000 in
set_option maxHeartbeats 6400000 in
theorem rebuildTells_4 (p : Pl) (va vt : Value) (x0 x1 x2 : F) (a t : List F) (w : World) (ha : Rb w va a) (ht : Rb w vt t) (hL0 : Lite p) (h : p.Ok) (hl60 : a.length ≤ 60) (ha0 : a.length ≠ 0) (n : Nat) (hn : p.T.toNat * F.nS p.L.toNat a.length = n) (K : Nat) (eK : p.T + p.L = K) (h1 : n ≤ t.length) (h3 : p.N ≠ K) (hz : x2 ≠ 0) : Calls Try.prog 37 #[planV p, .agg #[va, vt], .agg #[.int .u8 (x0.n : Int), .int .u8 (x1.n : Int), .int .u8 (x2.n : Int)]] w fun e w' => e = .returned (.bool true) ∧ Below w.heap.size w w' := by
  have hL := Lib.hid (decide_eq_true hL0)
  have hl : a.length ≤ 240 := by omega
  have t3 : decide ((60 : Int) < (a.length : Int)) = false := decide_eq_false (by omega)
  have t0 : ((a.length : Int) == 0) = false := beq_eq_false_iff_ne.2 (by omega)
  have hcost := Lib.hid (cost_nat h hn)
  have u1 : IntKind.i64.wrap (p.T + p.L) = (K : Int) := by rw [eK]; exact wrapI _ (by omega) (by have := hL0.2.1; have := hL0.2.2; omega)
  have t5 : ¬ t.length < n := by omega
  have tK : (p.N == (K : Int)) = false := beq_eq_false_iff_ne.2 h3
  have tz : ((x2.n : Int) == 0) = false := beq_eq_false_iff_ne.2 (by have := F.n_ne hz; omega)
  have hK' : Hid (K < 255) := Lib.hid (by have := hL0.2.1; have := hL0.2.2; omega)
  have hla : Hid (p.T * (F.nS p.L.toNat a.length : Int) ≤ (t.length : Int)) := Lib.hid (by rw [hcost.out]; omega)
  have eN : (p.N.toNat : Int) = p.N := by have := h.t; have := h.l; have := h.tl; have := h.wn; omega
  have hN1 : 1 ≤ p.N.toNat := by have := h.t; have := h.l; have := h.tl; have := h.wn; omega
  have tN : ((p.N.toNat : Int) != p.N) = false := by rw [eN]; simp
  have hN9 := hL0.1
  have hKN : K < p.N.toNat := by have := h.tl; have := h.wn; omega
  have hS1 : 0 < F.nS p.L.toNat a.length := (F.nS_lt p.L.toNat a.length 0 (by have := h.l; omega)).2 (by omega)
  have hal : Hid ((allOf p).length ≤ 1000) := Lib.hid (by rw [all_len]; have := hL0.1; omega)
  obtain ⟨i, hi⟩ : ∃ i : Nat, i = x0.n % p.N.toNat := ⟨_, rfl⟩
  have hiN : i < p.N.toNat := by rw [hi]; exact Nat.mod_lt _ hN1
  have dm : ((x0.n : Nat) : Int).tmod p.N = (i : Int) := by rw [← eN, hi]; rfl
  have hN0 : ¬ p.N = 0 := by omega
  obtain ⟨c, hc⟩ : ∃ c : Nat, c = x1.n % F.nS p.L.toNat a.length := ⟨_, rfl⟩
  have hcS : c < F.nS p.L.toNat a.length := by rw [hc]; exact Nat.mod_lt _ hS1
  have hDl : Hid ((shs p a t i).length = F.nS p.L.toNat a.length) := Lib.hid (by unfold shs; rw [F.dshare_len, polys_len])
  have hst : Hid (stripesOf p (a.length : Int) = ((shs p a t i).length : Int)) := Lib.hid (by rw [hDl.out]; exact stripes_nat h a.length hl)
  obtain ⟨k1, k2⟩ := tells_not p h K eK hK'.out a t hl (by rw [hn]; exact h1) i hiN c hcS x2 hz hKN
  have hch := Lib.hid k1
  have hna := Lib.hid k2
  have hD240 : (shs p a t i).length ≤ 240 := by rw [hDl.out]; exact Nat.le_trans (F.nS_le_len p.L.toNat a.length (by have := h.l; omega)) hl
  have hcD : c < (shs p a t i).length := by rw [hDl.out]; exact hcS
  have dm2 : ((x1.n : Nat) : Int).tmod ((shs p a t i).length : Int) = (c : Int) := by rw [hDl.out, hc]; rfl
  have hS0 : ¬ ((shs p a t i).length : Int) = 0 := by rw [hDl.out]; omega
  have hxb := x0.n_lt
  have hxb1 := x1.n_lt
  clear k1 k2 hi hc hcS hS1 hKN
  replace hn := Lib.hid hn
  replace eK := Lib.hid eK
  replace h1 := Lib.hid h1
  replace h3 := Lib.hid h3
  obtain ⟨Aa, ca, rfl⟩ := rk_form ha
  obtain ⟨At, ct, rfl⟩ := rk_form ht
  have HP := ((Blk.new w (planC p) 33).alloc (.cells #[.slice Aa a.length ca, .slice At t.length ct] 103)).alloc (.cells #[.int .u8 (x0.n : Int), .int .u8 (x1.n : Int), .int .u8 (x2.n : Int)] 141)
  have HQ := (Blk.new' (w.alloc (.cells (planC p) 33)) #[.slice Aa a.length ca, .slice At t.length ct] 103 (World.size_alloc _ _)).alloc (.cells #[.int .u8 (x0.n : Int), .int .u8 (x1.n : Int), .int .u8 (x2.n : Int)] 141)
  have HR := Blk.new' ((w.alloc (.cells (planC p) 33)).alloc (.cells #[.slice Aa a.length ca, .slice At t.length ct] 103)) #[.int .u8 (x0.n : Int), .int .u8 (x1.n : Int), .int .u8 (x2.n : Int)] 141 (by rw [World.size_alloc, World.size_alloc])
  have hB := below_alloc (below_alloc (below_alloc (Below.refl w.heap.size w) (.cells (planC p) 33)) (.cells #[.slice Aa a.length ca, .slice At t.length ct] 103)) (.cells #[.int .u8 (x0.n : Int), .int .u8 (x1.n : Int), .int .u8 (x2.n : Int)] 141)
  replace ha := ha.below hB
  replace ht := ht.below hB
  go_enter Try.func37, Try.ntmps37
  go_wp2_with fail
  generalize ((w.alloc (.cells (planC p) 33)).alloc (.cells #[.slice Aa a.length ca, .slice At t.length ct] 103)).alloc (.cells #[.int .u8 (x0.n : Int), .int .u8 (x1.n : Int), .int .u8 (x2.n : Int)] 141) = w1 at *
  have q0 := HQ.cell 0 _ rfl
  have q1 := HQ.cell 1 _ rfl
  go_quiet (fail)
  replace HP := HP.below (pw_below_drewN (Below.refl _ _) nq)
  replace HR := HR.below (pw_below_drewN (Below.refl _ _) nq)
  replace ha := ha.drewN nq
  replace ht := ht.drewN nq
  replace hB := pw_below_drewN hB nq
  clear q0 q1 HQ
  generalize w1.drewN nq = w1' at *
  obtain ⟨c0, c1, c2, c3, c4, c5⟩ := cells6 HP; have r0 : _ = some (Value.int .u8 (x0.n : Int)) := HR.cell 0 _ rfl; have r1 : _ = some (Value.int .u8 (x1.n : Int)) := HR.cell 1 _ rfl; have r2 : _ = some (Value.int .u8 (x2.n : Int)) := HR.cell 2 _ rfl
  go_wp2_with fail
  refine (light_c p _).mono ?_
  rintro e w2 ⟨rfl, h2⟩
  rw [hL.out]
  replace HP := HP.below h2
  replace HR := HR.below h2
  replace hB := bt_ hB h2
  replace ha := ha.below h2
  replace ht := ht.below h2
  clear c0 c1 c2 c3 c4 c5 r0 r1 r2
  obtain ⟨c0, c1, c2, c3, c4, c5⟩ := cells6 HP; have r0 : _ = some (Value.int .u8 (x0.n : Int)) := HR.cell 0 _ rfl; have r1 : _ = some (Value.int .u8 (x1.n : Int)) := HR.cell 1 _ rfl; have r2 : _ = some (Value.int .u8 (x2.n : Int)) := HR.cell 2 _ rfl
  clear h2
  go_wp2_with fail
  refine (rRight_yes p h _).mono ?_
  rintro e w3 ⟨rfl, h3⟩
  replace HP := HP.below h3
  replace HR := HR.below h3
  replace hB := bt_ hB h3
  replace ha := ha.below h3
  replace ht := ht.below h3
  clear c0 c1 c2 c3 c4 c5 r0 r1 r2
  obtain ⟨c0, c1, c2, c3, c4, c5⟩ := cells6 HP; have r0 : _ = some (Value.int .u8 (x0.n : Int)) := HR.cell 0 _ rfl; have r1 : _ = some (Value.int .u8 (x1.n : Int)) := HR.cell 1 _ rfl; have r2 : _ = some (Value.int .u8 (x2.n : Int)) := HR.cell 2 _ rfl
  clear h3
  go_wp2_with fail
  refine (rCost_c p h a.length hl _).mono ?_
  rintro e w4 ⟨rfl, h4⟩
  rw [hcost.out]
  replace HP := HP.below h4
  replace HR := HR.below h4
  replace hB := bt_ hB h4
  replace ha := ha.below h4
  replace ht := ht.below h4
  clear c0 c1 c2 c3 c4 c5 r0 r1 r2
  obtain ⟨c0, c1, c2, c3, c4, c5⟩ := cells6 HP; have r0 : _ = some (Value.int .u8 (x0.n : Int)) := HR.cell 0 _ rfl; have r1 : _ = some (Value.int .u8 (x1.n : Int)) := HR.cell 1 _ rfl; have r2 : _ = some (Value.int .u8 (x2.n : Int)) := HR.cell 2 _ rfl
  clear h4
  go_wp2_with fail
  refine (new_x _).mono ?_
  rintro e w3 ⟨bF, rfl, hF, h4⟩
  replace HP := HP.below h4
  replace HR := HR.below h4
  replace hB := bt_ hB h4
  replace ha := ha.below h4
  replace ht := ht.below h4
  clear c0 c1 c2 c3 c4 c5 r0 r1 r2
  obtain ⟨c0, c1, c2, c3, c4, c5⟩ := cells6 HP; have r0 : _ = some (Value.int .u8 (x0.n : Int)) := HR.cell 0 _ rfl; have r1 : _ = some (Value.int .u8 (x1.n : Int)) := HR.cell 1 _ rfl; have r2 : _ = some (Value.int .u8 (x2.n : Int)) := HR.cell 2 _ rfl
  clear h4
  go_wp2_with fail
  refine (dDeal_ok bF p h _ _ a t _ hF ha ht hl hla.out).mono ?_
  rintro e w4 ⟨g, vs, rfl, hR, h4⟩
  have HP3 := Lib.hid HP
  have HR3 := Lib.hid HR
  have ha3 := Lib.hid ha
  have hF3 := Lib.hid hF
  have hBw := Lib.hid hB
  have hBd := h4
  replace hF := hF.below h4
  replace HP := HP.below h4
  replace HR := HR.below h4
  replace hB := bt_ hB h4
  replace ha := ha.below h4
  replace ht := ht.below h4
  clear c0 c1 c2 c3 c4 c5 r0 r1 r2
  obtain ⟨c0, c1, c2, c3, c4, c5⟩ := cells6 HP; have r0 : _ = some (Value.int .u8 (x0.n : Int)) := HR.cell 0 _ rfl; have r1 : _ = some (Value.int .u8 (x1.n : Int)) := HR.cell 1 _ rfl; have r2 : _ = some (Value.int .u8 (x2.n : Int)) := HR.cell 2 _ rfl
  clear h4
  generalize hNN : p.N.toNat = N at *
  replace hNN := Lib.hid hNN
  have hN12 : N ≤ 12 := by omega
  replace eN := Lib.hid eN
  have hii : (i : Int) < (N : Int) := by omega
  have hu := (hR.own i hiN).rk
  have hsp : Hid (shs p a t i = shs p a t i) := Lib.hid rfl
  generalize hD : shs p a t i = D at *
  replace hD := Lib.hid hD
  generalize hvi : vs i = u at *
  obtain ⟨Au, cu, rfl⟩ := rk_form hu
  replace hvi := Lib.hid hvi
  go_wp2_with fail
  refine wp_region_tell [.v (.slice (some ⟨g, 0, none⟩) N N), .v (.int .i64 (i : Int)), .v (.pointer (some ⟨g, i, none⟩)), .v (.slice Au D.length cu), .v (.int .i64 (D.length : Int)), .v (planV p), .v (.slice Aa a.length ca), .v (.int .i64 (a.length : Int)), .v (.int .i64 (D.length : Int)), .v (.bool false)] [([], none), ([], none), ([(0, some 85), (1, some 86)], none), ([(2, some 87)], none), ([(3, some 88)], none), ([], none), ([], none), ([(6, some 91)], none), ([(5, some 90), (7, some 92)], none), ([(4, some 89), (8, some 93)], none)] [(0, some 85), (1, some 86), (2, some 87), (3, some 88), (4, some 89), (5, some 90), (6, some 91), (7, some 92), (8, some 93), (9, some 94)] (by kernel_rfl) (by kernel_rfl) (by kernel_rfl) (by kernel_rfl) (by exact ⟨trivial, trivial, trivial, trivial, trivial, trivial, trivial, trivial, trivial, trivial, trivial⟩) ⟨?s0, ?s1, ?s2, ?s3, ?s4, ?s5, ?s6, ?s7, ?s8, ?s9, trivial⟩ ?hQ
  case s0 =>
    intro W hB K hK
    simp only [tellK, Act.put, List.setIfInBounds_toArray, List.set_cons_zero, List.set_cons_succ] at hK ⊢
    refine tell_do rfl ?_
    obtain ⟨c0, c1, c2, c3, c4, c5⟩ := cells6 (HP.below hB); have q9 := (hR.below hB).cell i hiN; rw [hvi.out] at q9
    go_simp
    exact hK _ (Below.refl _ _)
  case s1 =>
    intro W hB K hK
    simp only [tellK, Act.put, List.setIfInBounds_toArray, List.set_cons_zero, List.set_cons_succ] at hK ⊢
    refine tell_do rfl ?_
    obtain ⟨c0, c1, c2, c3, c4, c5⟩ := cells6 (HP.below hB); have q9 := (hR.below hB).cell i hiN; rw [hvi.out] at q9
    go_simp
    exact hK _ (Below.refl _ _)
  case s2 =>
    intro W hB K hK
    simp only [tellK, Act.put, List.setIfInBounds_toArray, List.set_cons_zero, List.set_cons_succ] at hK ⊢
    refine tell_do rfl ?_
    obtain ⟨c0, c1, c2, c3, c4, c5⟩ := cells6 (HP.below hB); have q9 := (hR.below hB).cell i hiN; rw [hvi.out] at q9
    go_simp
    exact hK _ (Below.refl _ _)
  case s3 =>
    intro W hB K hK
    simp only [tellK, Act.put, List.setIfInBounds_toArray, List.set_cons_zero, List.set_cons_succ] at hK ⊢
    refine tell_do rfl ?_
    obtain ⟨c0, c1, c2, c3, c4, c5⟩ := cells6 (HP.below hB); have q9 := (hR.below hB).cell i hiN; rw [hvi.out] at q9
    go_simp
    exact hK _ (Below.refl _ _)
  case s4 =>
    intro W hB K hK
    simp only [tellK, Act.put, List.setIfInBounds_toArray, List.set_cons_zero, List.set_cons_succ] at hK ⊢
    refine tell_do rfl ?_
    obtain ⟨c0, c1, c2, c3, c4, c5⟩ := cells6 (HP.below hB); have q9 := (hR.below hB).cell i hiN; rw [hvi.out] at q9
    go_simp
    exact hK _ (Below.refl _ _)
  case s5 =>
    intro W hB K hK
    simp only [tellK, Act.put, List.setIfInBounds_toArray, List.set_cons_zero, List.set_cons_succ] at hK ⊢
    refine tell_do rfl ?_
    obtain ⟨c0, c1, c2, c3, c4, c5⟩ := cells6 (HP.below hB); have q9 := (hR.below hB).cell i hiN; rw [hvi.out] at q9
    go_simp
    exact hK _ (Below.refl _ _)
  case s6 =>
    intro W hB K hK
    simp only [tellK, Act.put, List.setIfInBounds_toArray, List.set_cons_zero, List.set_cons_succ] at hK ⊢
    refine tell_do rfl ?_
    obtain ⟨c0, c1, c2, c3, c4, c5⟩ := cells6 (HP.below hB); have q9 := (hR.below hB).cell i hiN; rw [hvi.out] at q9
    go_simp
    exact hK _ (Below.refl _ _)
  case s7 =>
    intro W hB K hK
    simp only [tellK, Act.put, List.setIfInBounds_toArray, List.set_cons_zero, List.set_cons_succ] at hK ⊢
    refine tell_do rfl ?_
    obtain ⟨c0, c1, c2, c3, c4, c5⟩ := cells6 (HP.below hB); have q9 := (hR.below hB).cell i hiN; rw [hvi.out] at q9
    go_simp
    exact hK _ (Below.refl _ _)
  case s8 =>
    intro W hB K hK
    simp only [tellK, Act.put, List.setIfInBounds_toArray, List.set_cons_zero, List.set_cons_succ] at hK ⊢
    refine tell_do rfl ?_
    obtain ⟨c0, c1, c2, c3, c4, c5⟩ := cells6 (HP.below hB); have q9 := (hR.below hB).cell i hiN; rw [hvi.out] at q9
    go_simp
    go_at_call 70; refine (rStripes_c p h (a.length : Int) _).mono ?_; rintro e w6 ⟨rfl, h6⟩; rw [hst.out]; exact hK _ h6
  case s9 =>
    intro W hB K hK
    simp only [tellK, Act.put, List.setIfInBounds_toArray, List.set_cons_zero, List.set_cons_succ] at hK ⊢
    refine tell_do rfl ?_
    obtain ⟨c0, c1, c2, c3, c4, c5⟩ := cells6 (HP.below hB); have q9 := (hR.below hB).cell i hiN; rw [hvi.out] at q9
    go_simp
    exact hK _ (Below.refl _ _)
  case hQ =>
    intro W hB
    simp only [tellGo, sayAt, List.getD_cons_zero, List.getD_cons_succ, Act.put, List.setIfInBounds_toArray, List.set_cons_zero, List.set_cons_succ]
    replace hF := hF.below hB
    replace hR := hR.below hB
    replace hu := hu.below hB
    have hBd := bt_ hBd hB
    clear hB
    have hDp : 0 < D.length := by omega
    have hLt := lit_own (w0 := W) (W := W) [] #[] rfl 0 rfl (by decide) (Nat.le_refl _)
    have hB1 := below_alloc (Below.refl W.heap.size W) (.cells #[] 5)
    have hu0 := hu.alloc (.cells #[] 5)
    have z0 := (hR.below hB1).cell i hiN
    rw [hvi.out] at z0
    go_wp2_with (first | (at_builtin; refine wpList_app_b (w0 := W) rfl (.tmp 95) (.tmp 99) rfl _ [] _ D rfl rfl hLt hu0 hDp hB1 (by simp; omega) ?_; intro v1 w1 ho hb hg; rw [List.nil_append] at ho; obtain ⟨gs, cps, rfl, hg1, hg2⟩ := Ob.form ho hDp) | fail)
    obtain ⟨cD, fD⟩ := Ob.at ho c hcD
    have X1 := xor8 (D.getD c 0) x2
    have hcDi : (c : Int) < (D.length : Int) := by omega
    generalize hy : D.getD c 0 = y at *
    replace hy := Lib.hid hy
    have HR1 := HR3.out.below (bt_ hBd hb)
    have r0 : w1.cell? ⟨w.heap.size + 1 + 1, 0, none⟩ = some (.int .u8 (x0.n : Int)) := HR1.cell 0 _ rfl
    have r1 : w1.cell? ⟨w.heap.size + 1 + 1, 1, none⟩ = some (.int .u8 (x1.n : Int)) := HR1.cell 1 _ rfl
    have r2 : w1.cell? ⟨w.heap.size + 1 + 1, 2, none⟩ = some (.int .u8 (x2.n : Int)) := HR1.cell 2 _ rfl
    clear hLt hB1 hu0 z0 hu hg
    have uw1 : IntKind.i64.wrap (x1.n : Int) = (x1.n : Int) := wrapI _ (by omega) (by omega)
    have hDne : ¬ D = [] := fun e => by rw [e] at hDp; exact absurd hDp (by decide)
    go_upto_region 12 with fail
    go_cut [13] (fun s13 wx => s13 = .slice (some ⟨gs, 0, none⟩) D.length cps ∧ Ob W wx s13 (D.set c (y + x2)) ∧ Below W.heap.size W wx)
    case first =>
      go_region_law (fail)
      all_goals
        go_wp2_with fail
        go_meet
        have hO1 := ho.below (below_drew (Below.refl _ _))
        have hB1 := below_drew hb
        obtain ⟨hO2, hgr⟩ := Ob.set hO1 c (y + x2)
        exact ⟨rfl, hO2, hB1.grown hgr hB1.size (fun k hk => by injection hk with hk; omega)⟩
    case rest =>
      obtain ⟨rfl, hO, hb2⟩ := hcut
      have hR2 := hR.below hb2
      have z1 := hR2.cell i hiN
      have z2 := hR2.frozen i
      have hO3 := hO.lower (w0 := w3) hBd
      have hRn := hR.put i hiN hO3 (grown_of_below hb2 _) (.inr ⟨gs, rfl, hg1⟩)
      have hB3 := below_set (bt_ hBd hb2) hR.base (j := i) (v := .slice (some ⟨gs, 0, none⟩) D.length cps)
      have hS := hRn.reads (by omega)
      clear r0 r1 r2 cD fD ho hb hRn hO hO3 hb2 hR HR1
      go_wp2_with fail
      generalize (List.map (fun j => if j = i then D.set c (y + x2) else shs p a t j) (List.range N)) = sh at *
      generalize wc.setCell ⟨g, i, none⟩ (.slice (some ⟨gs, 0, none⟩) D.length cps) = wy at *
      have HP := HP3.out.below hB3
      have ha := ha3.out.below hB3
      have hF := hF3.out.below hB3
      have hB9 := bt_ hBw.out hB3
      clear hB3 hBd z1 z2 hR2
      have hAgr : Hid (∀ (v u : Value) (W : World), IsField W bF → Ri W v (allOf p) → Rbb W u sh → Calls Try.prog 149 #[fp bF, planV p, .int .i64 (a.length : Int), v, u] W fun e W' => e = .returned (.bool false) ∧ Below W.heap.size W W') := Lib.hid (fun v u W f1 f2 f3 =>
        (rbAgree_ok bF p h a.length hl K eK.out hK'.out v u (allOf p) sh W f1 f2 f3 hal.out hch.out).mono (fun e W' ⟨bb, h1, h2, h3⟩ => ⟨by
          cases bb
          · exact h1
          · exact absurd (h2.1 rfl) hna.out, h3⟩))
      go_wp2_with fail
      refine wp_region_tell [.v (fp bF), .v (planV p), .v (.slice Aa a.length ca), .v (.int .i64 (a.length : Int)), .v (planV p), .p (isI (allOf p)), .v (.slice (some ⟨g, 0, none⟩) N N), .v (.bool false), .v (.bool true), .v (.bool true), .v (.bool true), .v (.bool true), .v (.bool true)] [([], none), ([], none), ([], none), ([(2, some 120)], none), ([], none), ([(4, some 122)], none), ([], none), ([(0, some 118), (1, some 119), (3, some 121), (5, some 123), (6, some 124)], none), ([(7, some 125)], none), ([(8, some 126)], none), ([(9, some 127)], some (some 127, true)), ([(9, some 127), (10, some 128)], none), ([(11, some 129)], none)] [(0, some 118), (1, some 119), (2, some 120), (3, some 121), (4, some 122), (5, some 123), (6, some 124), (7, some 125), (8, some 126), (9, some 127), (10, some 128), (11, some 129), (12, some 6)] (by kernel_rfl) (by kernel_rfl) (by kernel_rfl) (by kernel_rfl) (by exact ⟨trivial, trivial, trivial, trivial, trivial, last_I _, trivial, trivial, trivial, trivial, trivial, trivial, trivial, trivial⟩) ⟨?s0, ?s1, ?s2, ?s3, ?s4, ?s5, ?s6, ?s7, ?s8, ?s9, ?s10, ?s11, ?s12, trivial⟩ ?hQ
      case s0 =>
        intro W hB K hK
        simp only [tellK, Act.put, List.setIfInBounds_toArray, List.set_cons_zero, List.set_cons_succ] at hK ⊢
        refine tell_do rfl ?_
        obtain ⟨c0, c1, c2, c3, c4, c5⟩ := cells6 (HP.below hB)
        go_simp
        exact hK _ (Below.refl _ _)
      case s1 =>
        intro W hB K hK
        simp only [tellK, Act.put, List.setIfInBounds_toArray, List.set_cons_zero, List.set_cons_succ] at hK ⊢
        refine tell_do rfl ?_
        obtain ⟨c0, c1, c2, c3, c4, c5⟩ := cells6 (HP.below hB)
        go_simp
        exact hK _ (Below.refl _ _)
      case s2 =>
        intro W hB K hK
        simp only [tellK, Act.put, List.setIfInBounds_toArray, List.set_cons_zero, List.set_cons_succ] at hK ⊢
        refine tell_do rfl ?_
        obtain ⟨c0, c1, c2, c3, c4, c5⟩ := cells6 (HP.below hB)
        go_simp
        exact hK _ (Below.refl _ _)
      case s3 =>
        intro W hB K hK
        simp only [tellK, Act.put, List.setIfInBounds_toArray, List.set_cons_zero, List.set_cons_succ] at hK ⊢
        refine tell_do rfl ?_
        obtain ⟨c0, c1, c2, c3, c4, c5⟩ := cells6 (HP.below hB)
        go_simp
        exact hK _ (Below.refl _ _)
      case s4 =>
        intro W hB K hK
        simp only [tellK, Act.put, List.setIfInBounds_toArray, List.set_cons_zero, List.set_cons_succ] at hK ⊢
        refine tell_do rfl ?_
        obtain ⟨c0, c1, c2, c3, c4, c5⟩ := cells6 (HP.below hB)
        go_simp
        exact hK _ (Below.refl _ _)
      case s5 =>
        intro W hB K hK
        simp only [tellK, Act.put, List.setIfInBounds_toArray, List.set_cons_zero, List.set_cons_succ] at hK ⊢
        refine tell_do rfl ?_
        obtain ⟨c0, c1, c2, c3, c4, c5⟩ := cells6 (HP.below hB)
        go_simp
        go_at_call 68; refine (rAll_c p h _).mono ?_; rintro e w6 ⟨z, rfl, oA, h6⟩; exact hK _ _ oA.rk h6
      case s6 =>
        intro W hB K hK
        simp only [tellK, Act.put, List.setIfInBounds_toArray, List.set_cons_zero, List.set_cons_succ] at hK ⊢
        refine tell_do rfl ?_
        obtain ⟨c0, c1, c2, c3, c4, c5⟩ := cells6 (HP.below hB)
        go_simp
        exact hK _ (Below.refl _ _)
      case s7 =>
        intro W hB v5 h5 K hK
        replace h5 : Ri W v5 (allOf p) := h5
        simp only [tellK, Act.put, List.setIfInBounds_toArray, List.set_cons_zero, List.set_cons_succ] at hK ⊢
        refine tell_do rfl ?_
        obtain ⟨c0, c1, c2, c3, c4, c5⟩ := cells6 (HP.below hB)
        go_simp
        go_at_call 149; refine (hAgr.out _ _ _ (hF.below hB) h5 (hS.below hB)).mono ?_; rintro e w6 ⟨rfl, h6⟩; exact hK _ h6
      case s8 =>
        intro W hB K hK
        simp only [tellK, Act.put, List.setIfInBounds_toArray, List.set_cons_zero, List.set_cons_succ] at hK ⊢
        refine tell_do rfl ?_
        obtain ⟨c0, c1, c2, c3, c4, c5⟩ := cells6 (HP.below hB)
        go_simp
        exact hK _ (Below.refl _ _)
      case s9 =>
        intro W hB K hK
        simp only [tellK, Act.put, List.setIfInBounds_toArray, List.set_cons_zero, List.set_cons_succ] at hK ⊢
        refine tell_do rfl ?_
        obtain ⟨c0, c1, c2, c3, c4, c5⟩ := cells6 (HP.below hB)
        go_simp
        exact hK _ (Below.refl _ _)
      case s10 =>
        intro W hB K hK
        simp only [tellK, Act.put, List.setIfInBounds_toArray, List.set_cons_zero, List.set_cons_succ] at hK ⊢
        refine tell_do rfl ?_
        obtain ⟨c0, c1, c2, c3, c4, c5⟩ := cells6 (HP.below hB)
        go_simp
        go_at_call 147; refine (alive11 _).mono ?_; rintro e w6 ⟨rfl, h6⟩; exact hK _ h6
      case s11 =>
        intro W hB K hK
        simp only [tellK, Act.put, List.setIfInBounds_toArray, List.set_cons_zero, List.set_cons_succ] at hK ⊢
        refine tell_do rfl ?_
        obtain ⟨c0, c1, c2, c3, c4, c5⟩ := cells6 (HP.below hB)
        go_simp
        exact hK _ (Below.refl _ _)
      case s12 =>
        intro W hB K hK
        simp only [tellK, Act.put, List.setIfInBounds_toArray, List.set_cons_zero, List.set_cons_succ] at hK ⊢
        refine tell_do rfl ?_
        obtain ⟨c0, c1, c2, c3, c4, c5⟩ := cells6 (HP.below hB)
        go_simp
        exact hK _ (Below.refl _ _)
      case hQ =>
        intro W hB v5 h5
        replace h5 : Ri W v5 (allOf p) := h5
        simp only [tellGo, sayAt, List.getD_cons_zero, List.getD_cons_succ, Act.put, List.setIfInBounds_toArray, List.set_cons_zero, List.set_cons_succ]
        go_wp2
        go_ret
        exact ⟨rfl, bt_ hB9 hB⟩
set_option maxRecDepth 100000 in
theorem RebuildTells_walk (w : World) (N : Int) (hN : -9223372036854775808 ≤ N ∧ N ≤ 9223372036854775807) (T : Int) (hT : -9223372036854775808 ≤ T ∧ T ≤ 9223372036854775807) (L : Int) (hL : -9223372036854775808 ≤ L ∧ L ≤ 9223372036854775807) (W : Int) (hW : -9223372036854775808 ≤ W ∧ W ≤ 9223372036854775807) (S : Int) (hS : -9223372036854775808 ≤ S ∧ S ≤ 9223372036854775807) (R : Int) (hR : -9223372036854775808 ≤ R ∧ R ≤ 9223372036854775807) (va : Value) (a : List F) (ha : Rb w va a) (vt : Value) (t : List F) (ht : Rb w vt t) (x0 x1 x2 : F) :
   Calls Try.prog 37 #[.agg #[.int .i64 N, .int .i64 T, .int .i64 L, .int .i64 W, .int .i64 S, .int .i64 R], .agg #[va, vt], .agg #[.int .u8 (x0.n : Int), .int .u8 (x1.n : Int), .int .u8 (x2.n : Int)]] w fun e w' => e = .returned (.bool true) ∧ Below w.heap.size w w' := by
  by_cases hLt : Lite ⟨N, T, L, W, S, R⟩
  · have hi : Pl.In ⟨N, T, L, W, S, R⟩ := ⟨hN, hT, hL, hW, hS, hR⟩
    by_cases h : (Pl.mk N T L W S R).Ok
    · by_cases hl : a.length ≤ 60 ∧ a.length ≠ 0
      · obtain ⟨n, hn⟩ : ∃ n : Nat, (Pl.mk N T L W S R).T.toNat * F.nS (Pl.mk N T L W S R).L.toNat a.length = n := ⟨_, rfl⟩
        obtain ⟨K, eK⟩ : ∃ K : Nat, (Pl.mk N T L W S R).T + (Pl.mk N T L W S R).L = (K : Int) := ⟨(T + L).toNat, by have h1 := h.t; have h2 := h.l; show T + L = _; have h1 : 1 ≤ T := h1; have h2 : 1 ≤ L := h2; omega⟩
        by_cases h2 : n ≤ t.length ∧ (Pl.mk N T L W S R).N ≠ (K : Int) ∧ x2 ≠ 0
        · exact rebuildTells_4 ⟨N, T, L, W, S, R⟩ va vt x0 x1 x2 a t w ha ht hLt h hl.1 hl.2 n hn K eK h2.1 h2.2.1 h2.2.2
        · exact rebuildTells_3 ⟨N, T, L, W, S, R⟩ va vt x0 x1 x2 a t w ha ht hLt h hl.1 hl.2 n hn K eK h2
      · exact rebuildTells_2 ⟨N, T, L, W, S, R⟩ va vt x0 x1 x2 a t w ha ht hLt h hl
    · exact rebuildTells_1 ⟨N, T, L, W, S, R⟩ va vt x0 x1 x2 a t w ha ht hi hLt h
  · exact rebuildTells_0 ⟨N, T, L, W, S, R⟩ va vt x0 x1 x2 a t w ha ht hLt
end Go.Proofs.Ytijeabhfddaoaaa
