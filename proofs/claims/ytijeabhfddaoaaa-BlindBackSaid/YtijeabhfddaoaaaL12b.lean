/- The walk of the law ZeroKeeps. -/
import Derived.Test.YtijeabhfddaoaaaL12
import Derived.Test.YtijeabhfddaoaaaBk
import Derived.Test.YtijeabhfddaoaaaKv
import Derived.Test.YtijeabhfddaoaaaRk
import Derived.Test.YtijeabhfddaoaaaL11b
namespace Go.Proofs.Ytijeabhfddaoaaa
set_option linter.unusedVariables false
open Go.RowKit Go.Proofs.YtijeabhfddaoaaaW.PrintWords Go.Proofs.Sh

theorem rk_dropO {w : World} {A : Option Addr} {n c m : Nat} {l : List F} (h : Rb w (.slice A n c) l) (hm : m ≤ l.length) : Rb w (.slice (if c = m then A else A.map (fun x => x.add m)) (l.length - m) (c - m)) (l.drop m) := by
  have hr := rk_C h
  have hcap := rk_cap h
  have := Kd.C_drop (c := c) hr hm hcap
  refine ⟨_, c - m, by rw [List.length_drop], by rw [List.length_drop]; omega, ?_⟩
  have e : (fun x : Addr => x.add (m * kb.sz)) = fun x => x.add m := by funext x; rw [show kb.sz = 1 from rfl, Nat.mul_one]
  rw [e] at this
  exact this
/-- The polynomials behind two rounds of zero shares. -/
def zkE (p : Pl) (b tape z0 z1 : List F) (j : Nat) : List F := F.padd (F.padd ((polysOf p b tape).getD j []) (F.pmul (F.rt (secretsAt p)) (F.tp p.T.toNat z0 j))) (F.pmul (F.rt (secretsAt p)) (F.tp p.T.toNat z1 j))
def zkS (p : Pl) (b tape z0 z1 : List F) (x : F) : List F := F.addAll [F.dshare (polysOf p b tape) x, zsh p.T.toNat (F.rt (secretsAt p)) z0 (F.nS p.L.toNat b.length) x, zsh p.T.toNat (F.rt (secretsAt p)) z1 (F.nS p.L.toNat b.length) x]
theorem zsh_len (T : Nat) (root t : List F) (s : Nat) (x : F) : (zsh T root t s x).length = s := by simp [zsh]
theorem zsh_at (T : Nat) (root t : List F) (s : Nat) (x : F) (j : Nat) (h : j < s) : (zsh T root t s x).getD j 0 = F.ev x root * F.ev x (F.tp T t j) := by simp [zsh, List.getD_eq_getElem?_getD, h]
theorem zkS_eq (p : Pl) (b tape z0 z1 : List F) (x : F) : zkS p b tape z0 z1 x = F.zadd (F.zadd (F.dshare (polysOf p b tape) x) (zsh p.T.toNat (F.rt (secretsAt p)) z0 (F.nS p.L.toNat b.length) x)) (zsh p.T.toNat (F.rt (secretsAt p)) z1 (F.nS p.L.toNat b.length) x) := rfl
theorem zkS_len (p : Pl) (b tape z0 z1 : List F) (x : F) : (zkS p b tape z0 z1 x).length = F.nS p.L.toNat b.length := by
  rw [zkS_eq, F.zadd_len, F.zadd_len, zsh_len, zsh_len, F.dshare_len, polys_len, Nat.min_self, Nat.min_self]
theorem zkS_at (p : Pl) (b tape z0 z1 : List F) (x : F) (j : Nat) (hj : j < F.nS p.L.toNat b.length) : (zkS p b tape z0 z1 x).getD j 0 = F.ev x (zkE p b tape z0 z1 j) := by
  rw [zkS_eq, F.zadd_at _ _ _ (by rw [F.zadd_len, F.dshare_len, polys_len, zsh_len, Nat.min_self]; exact hj) (by rw [zsh_len]; exact hj), F.zadd_at _ _ _ (by rw [F.dshare_len, polys_len]; exact hj) (by rw [zsh_len]; exact hj),
    zsh_at _ _ _ _ _ _ hj, zsh_at _ _ _ _ _ _ hj, F.dshare_at _ _ _ (by rw [polys_len]; exact hj)]
  unfold zkE
  rw [F.ev_padd, F.ev_padd, F.ev_pmul, F.ev_pmul]
theorem zkE_deg (p : Pl) (h : p.Ok) (K : Nat) (eK : p.T + p.L = K) (b tape z0 z1 : List F) (hlen : p.T.toNat * F.nS p.L.toNat b.length ≤ tape.length) (h0 : p.T.toNat * F.nS p.L.toNat b.length ≤ z0.length) (h1 : p.T.toNat * F.nS p.L.toNat b.length ≤ z1.length) (j : Nat) (hj : j < F.nS p.L.toNat b.length) : (zkE p b tape z0 z1 j).length ≤ K := by
  have hT : 1 ≤ p.T.toNat := by have := h.t; omega
  have hK : p.T.toNat + p.L.toNat = K := by have := h.t; have := h.l; omega
  have key : ∀ z : List F, p.T.toNat * F.nS p.L.toNat b.length ≤ z.length → (F.pmul (F.rt (secretsAt p)) (F.tp p.T.toNat z j)).length ≤ K := fun z hz => by
    have h1 : (j + 1) * p.T.toNat ≤ z.length := Nat.le_trans (by rw [Nat.mul_comm]; exact Nat.mul_le_mul_left _ hj) hz
    have h2 := F.tp_len p.T.toNat z j h1
    rw [F.pmul_len (F.rt_ne _) (List.ne_nil_of_length_pos (by omega)), F.rt_len, h2, sec_len10]
    omega
  unfold zkE
  rw [F.padd_len, F.padd_len]
  have := polys_deg p h K eK b tape hlen j hj
  have := key z0 h0
  have := key z1 h1
  omega
theorem zkE_sec (p : Pl) (h : p.Ok) (b tape z0 z1 : List F) (j : Nat) (hj : j < F.nS p.L.toNat b.length) (k : Nat) (hk : k < p.L.toNat) : F.ev ((secretsAt p).getD k 0) (zkE p b tape z0 z1 j) = (F.rowOf p.L.toNat b j).getD k 0 := by
  have hz : F.ev ((secretsAt p).getD k 0) (F.rt (secretsAt p)) = 0 := (F.ev_rt _ _).2 (by
    have hk2 : k < (secretsAt p).length := by rw [sec_len10]; exact hk
    rw [List.getD_eq_getElem?_getD, List.getElem?_eq_getElem hk2]
    exact List.getElem_mem hk2)
  unfold zkE
  rw [F.ev_padd, F.ev_padd, F.ev_pmul, F.ev_pmul, hz, F.zero_mul, F.zero_mul, F.add_zero, F.add_zero]
  exact polys_sec p h b tape j hj k hk
theorem zkBack (p : Pl) (h : p.Ok) (K : Nat) (eK : p.T + p.L = K) (hK : K < 255) (b tape z0 z1 : List F) (hb : b.length ≤ 240) (hlen : p.T.toNat * F.nS p.L.toNat b.length ≤ tape.length) (h0 : p.T.toNat * F.nS p.L.toNat b.length ≤ z0.length) (h1 : p.T.toNat * F.nS p.L.toNat b.length ≤ z1.length)
    (who : List Int) (hg : ∀ i ∈ who, 1 ≤ i ∧ i ≤ p.N) (hd : (who.map point).Nodup) (hKw : K ≤ who.length) :
    chE p b.length who (who.map fun i => zkS p b tape z0 z1 (point i)) = 0 ∧ F.joinOf p.L.toNat (rowsOf ((who.take K).map point) (secretsAt p) ((who.map fun i => zkS p b tape z0 z1 (point i)).take K) (F.nS p.L.toNat b.length)) b.length = b ∧ agr ((who.take K).map point) (who.map point) K (who.map fun i => zkS p b tape z0 z1 (point i)) (F.nS p.L.toNat b.length) :=
  back_all p h K eK hK b hb who hg hd hKw (zkE p b tape z0 z1) (fun j hj => zkE_deg p h K eK b tape z0 z1 hlen h0 h1 j hj) (fun j hj k hk => zkE_sec p h b tape z0 z1 j hj k hk) _ (by rw [List.length_map])
    (fun r hr => by obtain ⟨i, _, rfl⟩ := List.mem_map.1 hr; exact zkS_len p b tape z0 z1 _)
    (fun k hk j hj => by rw [map_getD who _ 0 [] k hk, zkS_at p b tape z0 z1 _ j hj])
/-- A literal of three rows. -/
theorem lit_bb3 (w : World) (u0 u1 u2 : Value) (l0 l1 l2 : List F) (t : TypeId) (h0 : Rb w u0 l0) (h1 : Rb w u1 l1) (h2 : Rb w u2 l2) : Rbb (w.alloc (.cells #[u0, u1, u2] t)) (.slice (some ⟨w.heap.size, 0, none⟩) 3 3) [l0, l1, l2] := by
  refine lit_bb w [l0, l1, l2] [u0, u1, u2] _ t 3 3 rfl rfl (fun j u l hu hl => ?_) rfl (Nat.le_refl _) (by decide)
  match j with
  | 0 => simp at hu hl; subst hu; subst hl; exact h0
  | 1 => simp at hu hl; subst hu; subst hl; exact h1
  | 2 => simp at hu hl; subst hu; subst hl; exact h2
  | j + 3 => simp at hu
set_option maxRecDepth 100000 in
set_option maxHeartbeats 3200000 in
theorem zeroKeeps_0 (p : Pl) (va vt vz vw : Value) (a t z : List F) (who : List Int) (w : World) (ha : Rb w va a) (ht : Rb w vt t) (hz : Rb w vz z) (hw : Ri w vw who) (h : ¬ Lite p) : Calls Try.prog 35 #[planV p, .agg #[va, vt, vz], vw] w fun e w' => e = .returned (.bool true) ∧ Below w.heap.size w w' := by
  have hL := Lib.hid (decide_eq_false h)
  clear h
  obtain ⟨Aa, ca, rfl⟩ := rk_form ha
  obtain ⟨At, ct, rfl⟩ := rk_form ht
  obtain ⟨Az, cz, rfl⟩ := rk_form hz
  obtain ⟨Aw, cw, rfl⟩ := rk_form hw
  have HP := (Blk.new w (planC p) 33).alloc (.cells #[.slice Aa a.length ca, .slice At t.length ct, .slice Az z.length cz] 116)
  have HQ := Blk.new' (w.alloc (.cells (planC p) 33)) #[.slice Aa a.length ca, .slice At t.length ct, .slice Az z.length cz] 116 (World.size_alloc _ _)
  have hB := below_alloc (below_alloc (Below.refl w.heap.size w) (.cells (planC p) 33)) (.cells #[.slice Aa a.length ca, .slice At t.length ct, .slice Az z.length cz] 116)
  replace ha := ha.below hB
  replace ht := ht.below hB
  replace hz := hz.below hB
  replace hw := hw.below hB
  go_enter Try.func35, Try.ntmps35
  go_wp2_with fail
  generalize (w.alloc (.cells (planC p) 33)).alloc (.cells #[.slice Aa a.length ca, .slice At t.length ct, .slice Az z.length cz] 116) = w1 at *
  have q0 := HQ.cell 0 _ rfl
  have q1 := HQ.cell 1 _ rfl
  go_quiet (fail)
  replace HP := HP.below (pw_below_drewN (Below.refl _ _) nq)
  replace ha := ha.drewN nq
  replace ht := ht.drewN nq
  replace hz := hz.drewN nq
  replace HQ := HQ.below (pw_below_drewN (Below.refl _ _) nq)
  replace hw := hw.drewN nq
  replace hB := pw_below_drewN hB nq
  clear q0 q1
  generalize w1.drewN nq = w1' at *
  obtain ⟨c0, c1, c2, c3, c4, c5⟩ := cells6 HP
  go_wp2_with fail
  refine (light_c p _).mono ?_
  rintro e w2 ⟨rfl, h2⟩
  rw [hL.out]
  replace HP := HP.below h2
  replace hB := bt_ hB h2
  replace ha := ha.below h2
  replace ht := ht.below h2
  replace hz := hz.below h2
  replace HQ := HQ.below h2
  replace hw := hw.below h2
  clear c0 c1 c2 c3 c4 c5
  obtain ⟨c0, c1, c2, c3, c4, c5⟩ := cells6 HP
  clear h2
  go_wp2_with fail
  refine (alive12 _).mono ?_
  rintro e w9 ⟨rfl, h⟩
  have hB := bt_ hB h
  clear h
  go_wp2
  go_ret
  exact ⟨rfl, hB⟩
set_option maxRecDepth 100000 in
set_option maxHeartbeats 3200000 in
theorem zeroKeeps_1 (p : Pl) (va vt vz vw : Value) (a t z : List F) (who : List Int) (w : World) (ha : Rb w va a) (ht : Rb w vt t) (hz : Rb w vz z) (hw : Ri w vw who) (hi : p.In) (hL0 : Lite p) (h : ¬ p.Ok) : Calls Try.prog 35 #[planV p, .agg #[va, vt, vz], vw] w fun e w' => e = .returned (.bool true) ∧ Below w.heap.size w w' := by
  have hL := Lib.hid (decide_eq_true hL0)
  obtain ⟨Aa, ca, rfl⟩ := rk_form ha
  obtain ⟨At, ct, rfl⟩ := rk_form ht
  obtain ⟨Az, cz, rfl⟩ := rk_form hz
  obtain ⟨Aw, cw, rfl⟩ := rk_form hw
  have HP := (Blk.new w (planC p) 33).alloc (.cells #[.slice Aa a.length ca, .slice At t.length ct, .slice Az z.length cz] 116)
  have HQ := Blk.new' (w.alloc (.cells (planC p) 33)) #[.slice Aa a.length ca, .slice At t.length ct, .slice Az z.length cz] 116 (World.size_alloc _ _)
  have hB := below_alloc (below_alloc (Below.refl w.heap.size w) (.cells (planC p) 33)) (.cells #[.slice Aa a.length ca, .slice At t.length ct, .slice Az z.length cz] 116)
  replace ha := ha.below hB
  replace ht := ht.below hB
  replace hz := hz.below hB
  replace hw := hw.below hB
  go_enter Try.func35, Try.ntmps35
  go_wp2_with fail
  generalize (w.alloc (.cells (planC p) 33)).alloc (.cells #[.slice Aa a.length ca, .slice At t.length ct, .slice Az z.length cz] 116) = w1 at *
  have q0 := HQ.cell 0 _ rfl
  have q1 := HQ.cell 1 _ rfl
  go_quiet (fail)
  replace HP := HP.below (pw_below_drewN (Below.refl _ _) nq)
  replace ha := ha.drewN nq
  replace ht := ht.drewN nq
  replace hz := hz.drewN nq
  replace HQ := HQ.below (pw_below_drewN (Below.refl _ _) nq)
  replace hw := hw.drewN nq
  replace hB := pw_below_drewN hB nq
  clear q0 q1
  generalize w1.drewN nq = w1' at *
  obtain ⟨c0, c1, c2, c3, c4, c5⟩ := cells6 HP
  go_wp2_with fail
  refine (light_c p _).mono ?_
  rintro e w2 ⟨rfl, h2⟩
  rw [hL.out]
  replace HP := HP.below h2
  replace hB := bt_ hB h2
  replace ha := ha.below h2
  replace ht := ht.below h2
  replace hz := hz.below h2
  replace HQ := HQ.below h2
  replace hw := hw.below h2
  clear c0 c1 c2 c3 c4 c5
  obtain ⟨c0, c1, c2, c3, c4, c5⟩ := cells6 HP
  clear h2
  go_wp2_with fail
  refine (rRight_no p hi h _).mono ?_
  rintro e w3 ⟨rfl, h3⟩
  replace hB := bt_ hB h3
  go_wp2_with fail
  refine (alive12 _).mono ?_
  rintro e w9 ⟨rfl, h⟩
  have hB := bt_ hB h
  clear h
  go_wp2
  go_ret
  exact ⟨rfl, hB⟩
set_option maxRecDepth 100000 in
set_option maxHeartbeats 3200000 in
theorem zeroKeeps_2 (p : Pl) (va vt vz vw : Value) (a t z : List F) (who : List Int) (w : World) (ha : Rb w va a) (ht : Rb w vt t) (hz : Rb w vz z) (hw : Ri w vw who) (hL0 : Lite p) (h : p.Ok) (hx : ¬ a.length ≤ 60) : Calls Try.prog 35 #[planV p, .agg #[va, vt, vz], vw] w fun e w' => e = .returned (.bool true) ∧ Below w.heap.size w w' := by
  have hL := Lib.hid (decide_eq_true hL0)
  have t3 : (60 : Int) < (a.length : Int) := by omega
  obtain ⟨Aa, ca, rfl⟩ := rk_form ha
  obtain ⟨At, ct, rfl⟩ := rk_form ht
  obtain ⟨Az, cz, rfl⟩ := rk_form hz
  obtain ⟨Aw, cw, rfl⟩ := rk_form hw
  have HP := (Blk.new w (planC p) 33).alloc (.cells #[.slice Aa a.length ca, .slice At t.length ct, .slice Az z.length cz] 116)
  have HQ := Blk.new' (w.alloc (.cells (planC p) 33)) #[.slice Aa a.length ca, .slice At t.length ct, .slice Az z.length cz] 116 (World.size_alloc _ _)
  have hB := below_alloc (below_alloc (Below.refl w.heap.size w) (.cells (planC p) 33)) (.cells #[.slice Aa a.length ca, .slice At t.length ct, .slice Az z.length cz] 116)
  replace ha := ha.below hB
  replace ht := ht.below hB
  replace hz := hz.below hB
  replace hw := hw.below hB
  go_enter Try.func35, Try.ntmps35
  go_wp2_with fail
  generalize (w.alloc (.cells (planC p) 33)).alloc (.cells #[.slice Aa a.length ca, .slice At t.length ct, .slice Az z.length cz] 116) = w1 at *
  have q0 := HQ.cell 0 _ rfl
  have q1 := HQ.cell 1 _ rfl
  go_quiet (fail)
  replace HP := HP.below (pw_below_drewN (Below.refl _ _) nq)
  replace ha := ha.drewN nq
  replace ht := ht.drewN nq
  replace hz := hz.drewN nq
  replace HQ := HQ.below (pw_below_drewN (Below.refl _ _) nq)
  replace hw := hw.drewN nq
  replace hB := pw_below_drewN hB nq
  clear q0 q1
  generalize w1.drewN nq = w1' at *
  obtain ⟨c0, c1, c2, c3, c4, c5⟩ := cells6 HP
  go_wp2_with fail
  refine (light_c p _).mono ?_
  rintro e w2 ⟨rfl, h2⟩
  rw [hL.out]
  replace HP := HP.below h2
  replace hB := bt_ hB h2
  replace ha := ha.below h2
  replace ht := ht.below h2
  replace hz := hz.below h2
  replace HQ := HQ.below h2
  replace hw := hw.below h2
  clear c0 c1 c2 c3 c4 c5
  obtain ⟨c0, c1, c2, c3, c4, c5⟩ := cells6 HP
  clear h2
  go_wp2_with fail
  refine (rRight_yes p h _).mono ?_
  rintro e w3 ⟨rfl, h3⟩
  replace HP := HP.below h3
  replace hB := bt_ hB h3
  replace ha := ha.below h3
  replace ht := ht.below h3
  replace hz := hz.below h3
  replace HQ := HQ.below h3
  replace hw := hw.below h3
  clear c0 c1 c2 c3 c4 c5
  obtain ⟨c0, c1, c2, c3, c4, c5⟩ := cells6 HP
  clear h3
  go_wp2_with fail
  refine (alive12 _).mono ?_
  rintro e w9 ⟨rfl, h⟩
  have hB := bt_ hB h
  clear h
  go_wp2
  go_ret
  exact ⟨rfl, hB⟩
set_option maxRecDepth 100000 in
set_option maxHeartbeats 3200000 in
theorem zeroKeeps_3 (p : Pl) (va vt vz vw : Value) (a t z : List F) (who : List Int) (w : World) (ha : Rb w va a) (ht : Rb w vt t) (hz : Rb w vz z) (hw : Ri w vw who) (hL0 : Lite p) (h : p.Ok) (hl60 : a.length ≤ 60) (n : Nat) (hn : p.T.toNat * F.nS p.L.toNat a.length = n) (K : Nat) (eK : p.T + p.L = K) (hx : ¬ (n ≤ t.length ∧ who.length ≤ 14 ∧ K ≤ who.length)) : Calls Try.prog 35 #[planV p, .agg #[va, vt, vz], vw] w fun e w' => e = .returned (.bool true) ∧ Below w.heap.size w w' := by
  have hL := Lib.hid (decide_eq_true hL0)
  have hl : a.length ≤ 240 := by omega
  have t3 : decide ((60 : Int) < (a.length : Int)) = false := decide_eq_false (by omega)
  have hcost := Lib.hid (cost_nat h hn)
  have u1 : IntKind.i64.wrap (p.T + p.L) = (K : Int) := by rw [eK]; exact wrapI _ (by omega) (by have := hL0.2.1; have := hL0.2.2; omega)
  by_cases h1 : n ≤ t.length
  · have t5 : ¬ t.length < n := by omega
    by_cases h2 : who.length ≤ 14
    · have t6 : decide ((14 : Int) < (who.length : Int)) = false := decide_eq_false (by omega)
      have t7 : who.length < K := by
        have : ¬ K ≤ who.length := fun e => hx ⟨h1, h2, e⟩
        omega
      clear hx h1 h2 hn eK
      obtain ⟨Aa, ca, rfl⟩ := rk_form ha
      obtain ⟨At, ct, rfl⟩ := rk_form ht
      obtain ⟨Az, cz, rfl⟩ := rk_form hz
      obtain ⟨Aw, cw, rfl⟩ := rk_form hw
      have HP := (Blk.new w (planC p) 33).alloc (.cells #[.slice Aa a.length ca, .slice At t.length ct, .slice Az z.length cz] 116)
      have HQ := Blk.new' (w.alloc (.cells (planC p) 33)) #[.slice Aa a.length ca, .slice At t.length ct, .slice Az z.length cz] 116 (World.size_alloc _ _)
      have hB := below_alloc (below_alloc (Below.refl w.heap.size w) (.cells (planC p) 33)) (.cells #[.slice Aa a.length ca, .slice At t.length ct, .slice Az z.length cz] 116)
      replace ha := ha.below hB
      replace ht := ht.below hB
      replace hz := hz.below hB
      replace hw := hw.below hB
      go_enter Try.func35, Try.ntmps35
      go_wp2_with fail
      generalize (w.alloc (.cells (planC p) 33)).alloc (.cells #[.slice Aa a.length ca, .slice At t.length ct, .slice Az z.length cz] 116) = w1 at *
      have q0 := HQ.cell 0 _ rfl
      have q1 := HQ.cell 1 _ rfl
      go_quiet (fail)
      replace HP := HP.below (pw_below_drewN (Below.refl _ _) nq)
      replace ha := ha.drewN nq
      replace ht := ht.drewN nq
      replace hz := hz.drewN nq
      replace HQ := HQ.below (pw_below_drewN (Below.refl _ _) nq)
      replace hw := hw.drewN nq
      replace hB := pw_below_drewN hB nq
      clear q0 q1
      generalize w1.drewN nq = w1' at *
      obtain ⟨c0, c1, c2, c3, c4, c5⟩ := cells6 HP
      go_wp2_with fail
      refine (light_c p _).mono ?_
      rintro e w2 ⟨rfl, h2⟩
      rw [hL.out]
      replace HP := HP.below h2
      replace hB := bt_ hB h2
      replace ha := ha.below h2
      replace ht := ht.below h2
      replace hz := hz.below h2
      replace HQ := HQ.below h2
      replace hw := hw.below h2
      clear c0 c1 c2 c3 c4 c5
      obtain ⟨c0, c1, c2, c3, c4, c5⟩ := cells6 HP
      clear h2
      go_wp2_with fail
      refine (rRight_yes p h _).mono ?_
      rintro e w3 ⟨rfl, h3⟩
      replace HP := HP.below h3
      replace hB := bt_ hB h3
      replace ha := ha.below h3
      replace ht := ht.below h3
      replace hz := hz.below h3
      replace HQ := HQ.below h3
      replace hw := hw.below h3
      clear c0 c1 c2 c3 c4 c5
      obtain ⟨c0, c1, c2, c3, c4, c5⟩ := cells6 HP
      clear h3
      go_wp2_with fail
      refine (rCost_c p h a.length hl _).mono ?_
      rintro e w4 ⟨rfl, h4⟩
      rw [hcost.out]
      replace HP := HP.below h4
      replace hB := bt_ hB h4
      replace ha := ha.below h4
      replace ht := ht.below h4
      replace hz := hz.below h4
      replace HQ := HQ.below h4
      replace hw := hw.below h4
      clear c0 c1 c2 c3 c4 c5
      obtain ⟨c0, c1, c2, c3, c4, c5⟩ := cells6 HP
      clear h4
      go_wp2_with fail
      refine (alive12 _).mono ?_
      rintro e w9 ⟨rfl, h⟩
      have hB := bt_ hB h
      clear h
      go_wp2
      go_ret
      exact ⟨rfl, hB⟩
    · have t6 : (14 : Int) < (who.length : Int) := by omega
      clear hx h1 h2 hn eK
      obtain ⟨Aa, ca, rfl⟩ := rk_form ha
      obtain ⟨At, ct, rfl⟩ := rk_form ht
      obtain ⟨Az, cz, rfl⟩ := rk_form hz
      obtain ⟨Aw, cw, rfl⟩ := rk_form hw
      have HP := (Blk.new w (planC p) 33).alloc (.cells #[.slice Aa a.length ca, .slice At t.length ct, .slice Az z.length cz] 116)
      have HQ := Blk.new' (w.alloc (.cells (planC p) 33)) #[.slice Aa a.length ca, .slice At t.length ct, .slice Az z.length cz] 116 (World.size_alloc _ _)
      have hB := below_alloc (below_alloc (Below.refl w.heap.size w) (.cells (planC p) 33)) (.cells #[.slice Aa a.length ca, .slice At t.length ct, .slice Az z.length cz] 116)
      replace ha := ha.below hB
      replace ht := ht.below hB
      replace hz := hz.below hB
      replace hw := hw.below hB
      go_enter Try.func35, Try.ntmps35
      go_wp2_with fail
      generalize (w.alloc (.cells (planC p) 33)).alloc (.cells #[.slice Aa a.length ca, .slice At t.length ct, .slice Az z.length cz] 116) = w1 at *
      have q0 := HQ.cell 0 _ rfl
      have q1 := HQ.cell 1 _ rfl
      go_quiet (fail)
      replace HP := HP.below (pw_below_drewN (Below.refl _ _) nq)
      replace ha := ha.drewN nq
      replace ht := ht.drewN nq
      replace hz := hz.drewN nq
      replace HQ := HQ.below (pw_below_drewN (Below.refl _ _) nq)
      replace hw := hw.drewN nq
      replace hB := pw_below_drewN hB nq
      clear q0 q1
      generalize w1.drewN nq = w1' at *
      obtain ⟨c0, c1, c2, c3, c4, c5⟩ := cells6 HP
      go_wp2_with fail
      refine (light_c p _).mono ?_
      rintro e w2 ⟨rfl, h2⟩
      rw [hL.out]
      replace HP := HP.below h2
      replace hB := bt_ hB h2
      replace ha := ha.below h2
      replace ht := ht.below h2
      replace hz := hz.below h2
      replace HQ := HQ.below h2
      replace hw := hw.below h2
      clear c0 c1 c2 c3 c4 c5
      obtain ⟨c0, c1, c2, c3, c4, c5⟩ := cells6 HP
      clear h2
      go_wp2_with fail
      refine (rRight_yes p h _).mono ?_
      rintro e w3 ⟨rfl, h3⟩
      replace HP := HP.below h3
      replace hB := bt_ hB h3
      replace ha := ha.below h3
      replace ht := ht.below h3
      replace hz := hz.below h3
      replace HQ := HQ.below h3
      replace hw := hw.below h3
      clear c0 c1 c2 c3 c4 c5
      obtain ⟨c0, c1, c2, c3, c4, c5⟩ := cells6 HP
      clear h3
      go_wp2_with fail
      refine (rCost_c p h a.length hl _).mono ?_
      rintro e w4 ⟨rfl, h4⟩
      rw [hcost.out]
      replace HP := HP.below h4
      replace hB := bt_ hB h4
      replace ha := ha.below h4
      replace ht := ht.below h4
      replace hz := hz.below h4
      replace HQ := HQ.below h4
      replace hw := hw.below h4
      clear c0 c1 c2 c3 c4 c5
      obtain ⟨c0, c1, c2, c3, c4, c5⟩ := cells6 HP
      clear h4
      go_wp2_with fail
      refine (alive12 _).mono ?_
      rintro e w9 ⟨rfl, h⟩
      have hB := bt_ hB h
      clear h
      go_wp2
      go_ret
      exact ⟨rfl, hB⟩
  · have t5 : t.length < n := by omega
    clear hx h1 hn eK
    obtain ⟨Aa, ca, rfl⟩ := rk_form ha
    obtain ⟨At, ct, rfl⟩ := rk_form ht
    obtain ⟨Az, cz, rfl⟩ := rk_form hz
    obtain ⟨Aw, cw, rfl⟩ := rk_form hw
    have HP := (Blk.new w (planC p) 33).alloc (.cells #[.slice Aa a.length ca, .slice At t.length ct, .slice Az z.length cz] 116)
    have HQ := Blk.new' (w.alloc (.cells (planC p) 33)) #[.slice Aa a.length ca, .slice At t.length ct, .slice Az z.length cz] 116 (World.size_alloc _ _)
    have hB := below_alloc (below_alloc (Below.refl w.heap.size w) (.cells (planC p) 33)) (.cells #[.slice Aa a.length ca, .slice At t.length ct, .slice Az z.length cz] 116)
    replace ha := ha.below hB
    replace ht := ht.below hB
    replace hz := hz.below hB
    replace hw := hw.below hB
    go_enter Try.func35, Try.ntmps35
    go_wp2_with fail
    generalize (w.alloc (.cells (planC p) 33)).alloc (.cells #[.slice Aa a.length ca, .slice At t.length ct, .slice Az z.length cz] 116) = w1 at *
    have q0 := HQ.cell 0 _ rfl
    have q1 := HQ.cell 1 _ rfl
    go_quiet (fail)
    replace HP := HP.below (pw_below_drewN (Below.refl _ _) nq)
    replace ha := ha.drewN nq
    replace ht := ht.drewN nq
    replace hz := hz.drewN nq
    replace HQ := HQ.below (pw_below_drewN (Below.refl _ _) nq)
    replace hw := hw.drewN nq
    replace hB := pw_below_drewN hB nq
    clear q0 q1
    generalize w1.drewN nq = w1' at *
    obtain ⟨c0, c1, c2, c3, c4, c5⟩ := cells6 HP
    go_wp2_with fail
    refine (light_c p _).mono ?_
    rintro e w2 ⟨rfl, h2⟩
    rw [hL.out]
    replace HP := HP.below h2
    replace hB := bt_ hB h2
    replace ha := ha.below h2
    replace ht := ht.below h2
    replace hz := hz.below h2
    replace HQ := HQ.below h2
    replace hw := hw.below h2
    clear c0 c1 c2 c3 c4 c5
    obtain ⟨c0, c1, c2, c3, c4, c5⟩ := cells6 HP
    clear h2
    go_wp2_with fail
    refine (rRight_yes p h _).mono ?_
    rintro e w3 ⟨rfl, h3⟩
    replace HP := HP.below h3
    replace hB := bt_ hB h3
    replace ha := ha.below h3
    replace ht := ht.below h3
    replace hz := hz.below h3
    replace HQ := HQ.below h3
    replace hw := hw.below h3
    clear c0 c1 c2 c3 c4 c5
    obtain ⟨c0, c1, c2, c3, c4, c5⟩ := cells6 HP
    clear h3
    go_wp2_with fail
    refine (rCost_c p h a.length hl _).mono ?_
    rintro e w4 ⟨rfl, h4⟩
    rw [hcost.out]
    replace HP := HP.below h4
    replace hB := bt_ hB h4
    replace ha := ha.below h4
    replace ht := ht.below h4
    replace hz := hz.below h4
    replace HQ := HQ.below h4
    replace hw := hw.below h4
    clear c0 c1 c2 c3 c4 c5
    obtain ⟨c0, c1, c2, c3, c4, c5⟩ := cells6 HP
    clear h4
    go_wp2_with fail
    refine (alive12 _).mono ?_
    rintro e w9 ⟨rfl, h⟩
    have hB := bt_ hB h
    clear h
    go_wp2
    go_ret
    exact ⟨rfl, hB⟩
set_option maxRecDepth 100000 in
set_option maxHeartbeats 3200000 in
theorem zeroKeeps_4 (p : Pl) (va vt vz vw : Value) (a t z : List F) (who : List Int) (w : World) (ha : Rb w va a) (ht : Rb w vt t) (hz : Rb w vz z) (hw : Ri w vw who) (hL0 : Lite p) (h : p.Ok) (hl60 : a.length ≤ 60) (n : Nat) (hn : p.T.toNat * F.nS p.L.toNat a.length = n) (K : Nat) (eK : p.T + p.L = K) (h1 : n ≤ t.length) (h2 : who.length ≤ 14) (h3 : K ≤ who.length) (hu : ¬ (who.map point).Nodup) : Calls Try.prog 35 #[planV p, .agg #[va, vt, vz], vw] w fun e w' => e = .returned (.bool true) ∧ Below w.heap.size w w' := by
  have hL := Lib.hid (decide_eq_true hL0)
  have hl : a.length ≤ 240 := by omega
  have t3 : decide ((60 : Int) < (a.length : Int)) = false := decide_eq_false (by omega)
  have hcost := Lib.hid (cost_nat h hn)
  have u1 : IntKind.i64.wrap (p.T + p.L) = (K : Int) := by rw [eK]; exact wrapI _ (by omega) (by have := hL0.2.1; have := hL0.2.2; omega)
  have t5 : ¬ t.length < n := by omega
  have t6 : decide ((14 : Int) < (who.length : Int)) = false := decide_eq_false (by omega)
  have t7 : ¬ who.length < K := by omega
  have hud := Lib.hid (decide_eq_false hu)
  clear hn eK
  obtain ⟨Aa, ca, rfl⟩ := rk_form ha
  obtain ⟨At, ct, rfl⟩ := rk_form ht
  obtain ⟨Az, cz, rfl⟩ := rk_form hz
  obtain ⟨Aw, cw, rfl⟩ := rk_form hw
  have HP := (Blk.new w (planC p) 33).alloc (.cells #[.slice Aa a.length ca, .slice At t.length ct, .slice Az z.length cz] 116)
  have HQ := Blk.new' (w.alloc (.cells (planC p) 33)) #[.slice Aa a.length ca, .slice At t.length ct, .slice Az z.length cz] 116 (World.size_alloc _ _)
  have hB := below_alloc (below_alloc (Below.refl w.heap.size w) (.cells (planC p) 33)) (.cells #[.slice Aa a.length ca, .slice At t.length ct, .slice Az z.length cz] 116)
  replace ha := ha.below hB
  replace ht := ht.below hB
  replace hz := hz.below hB
  replace hw := hw.below hB
  go_enter Try.func35, Try.ntmps35
  go_wp2_with fail
  generalize (w.alloc (.cells (planC p) 33)).alloc (.cells #[.slice Aa a.length ca, .slice At t.length ct, .slice Az z.length cz] 116) = w1 at *
  have q0 := HQ.cell 0 _ rfl
  have q1 := HQ.cell 1 _ rfl
  go_quiet (fail)
  replace HP := HP.below (pw_below_drewN (Below.refl _ _) nq)
  replace ha := ha.drewN nq
  replace ht := ht.drewN nq
  replace hz := hz.drewN nq
  replace HQ := HQ.below (pw_below_drewN (Below.refl _ _) nq)
  replace hw := hw.drewN nq
  replace hB := pw_below_drewN hB nq
  clear q0 q1
  generalize w1.drewN nq = w1' at *
  obtain ⟨c0, c1, c2, c3, c4, c5⟩ := cells6 HP
  go_wp2_with fail
  refine (light_c p _).mono ?_
  rintro e w2 ⟨rfl, h2⟩
  rw [hL.out]
  replace HP := HP.below h2
  replace hB := bt_ hB h2
  replace ha := ha.below h2
  replace ht := ht.below h2
  replace hz := hz.below h2
  replace HQ := HQ.below h2
  replace hw := hw.below h2
  clear c0 c1 c2 c3 c4 c5
  obtain ⟨c0, c1, c2, c3, c4, c5⟩ := cells6 HP
  clear h2
  go_wp2_with fail
  refine (rRight_yes p h _).mono ?_
  rintro e w3 ⟨rfl, h3⟩
  replace HP := HP.below h3
  replace hB := bt_ hB h3
  replace ha := ha.below h3
  replace ht := ht.below h3
  replace hz := hz.below h3
  replace HQ := HQ.below h3
  replace hw := hw.below h3
  clear c0 c1 c2 c3 c4 c5
  obtain ⟨c0, c1, c2, c3, c4, c5⟩ := cells6 HP
  clear h3
  go_wp2_with fail
  refine (rCost_c p h a.length hl _).mono ?_
  rintro e w4 ⟨rfl, h4⟩
  rw [hcost.out]
  replace HP := HP.below h4
  replace hB := bt_ hB h4
  replace ha := ha.below h4
  replace ht := ht.below h4
  replace hz := hz.below h4
  replace HQ := HQ.below h4
  replace hw := hw.below h4
  clear c0 c1 c2 c3 c4 c5
  obtain ⟨c0, c1, c2, c3, c4, c5⟩ := cells6 HP
  clear h4
  go_wp2_with fail
  refine (rPoints_c _ who _ hw (by omega)).mono ?_
  rintro e w5 ⟨vP, rfl, oP, h5⟩
  replace HP := HP.below h5
  replace hB := bt_ hB h5
  replace ha := ha.below h5
  replace ht := ht.below h5
  replace hz := hz.below h5
  replace HQ := HQ.below h5
  replace hw := hw.below h5
  clear c0 c1 c2 c3 c4 c5
  obtain ⟨c0, c1, c2, c3, c4, c5⟩ := cells6 HP
  clear h5
  go_wp2_with fail
  refine (rUnlike_c _ _ _ oP.rk).mono ?_
  rintro e w6 ⟨rfl, h6⟩
  rw [hud.out]
  replace h6 := h6.below
  replace HP := HP.below h6
  replace hB := bt_ hB h6
  replace ha := ha.below h6
  replace ht := ht.below h6
  replace hz := hz.below h6
  replace HQ := HQ.below h6
  replace hw := hw.below h6
  clear c0 c1 c2 c3 c4 c5
  obtain ⟨c0, c1, c2, c3, c4, c5⟩ := cells6 HP
  clear h6 oP
  go_wp2_with fail
  refine (alive12 _).mono ?_
  rintro e w9 ⟨rfl, h⟩
  have hB := bt_ hB h
  clear h
  go_wp2
  go_ret
  exact ⟨rfl, hB⟩
set_option maxRecDepth 100000 in
set_option maxHeartbeats 6400000 in
theorem zeroKeeps_5 (p : Pl) (va vt vz vw : Value) (a t z : List F) (who : List Int) (w : World) (ha : Rb w va a) (ht : Rb w vt t) (hz : Rb w vz z) (hw : Ri w vw who) (hL0 : Lite p) (h : p.Ok) (hl60 : a.length ≤ 60) (n : Nat) (hn : p.T.toNat * F.nS p.L.toNat a.length = n) (K : Nat) (eK : p.T + p.L = K) (h1 : n ≤ t.length) (h2 : who.length ≤ 14) (h3 : K ≤ who.length) (hu : (who.map point).Nodup) (hx : ¬ 2 * n ≤ z.length) : Calls Try.prog 35 #[planV p, .agg #[va, vt, vz], vw] w fun e w' => e = .returned (.bool true) ∧ Below w.heap.size w w' := by
  have hL := Lib.hid (decide_eq_true hL0)
  have hl : a.length ≤ 240 := by omega
  have t3 : decide ((60 : Int) < (a.length : Int)) = false := decide_eq_false (by omega)
  have hcost := Lib.hid (cost_nat h hn)
  have u1 : IntKind.i64.wrap (p.T + p.L) = (K : Int) := by rw [eK]; exact wrapI _ (by omega) (by have := hL0.2.1; have := hL0.2.2; omega)
  have t5 : ¬ t.length < n := by omega
  have t6 : decide ((14 : Int) < (who.length : Int)) = false := decide_eq_false (by omega)
  have t7 : ¬ who.length < K := by omega
  have hud := Lib.hid (decide_eq_true hu)
  have hK : Hid (K < 255) := Lib.hid (by have := hL0.2.1; have := hL0.2.2; omega)
  have hst : Hid (stripesOf p (a.length : Int) = (F.nS p.L.toNat a.length : Int)) := Lib.hid (stripes_nat h a.length hl)
  have hTT : 1 ≤ p.T ∧ p.T ≤ 12 := ⟨h.t, hL0.2.2⟩
  have u3 : IntKind.i64.wrap (2 * p.T) = 2 * p.T := wrapI _ (by omega) (by omega)
  have hn99 : n ≤ 720 := by
    have e1 := F.nS_le_len p.L.toNat a.length (by have := h.l; omega)
    have e2 : p.T.toNat ≤ 12 := by omega
    rw [← hn]
    exact Nat.le_trans (Nat.mul_le_mul e2 (Nat.le_trans e1 hl60)) (by decide)
  have u4 : IntKind.i64.wrap (2 * p.T * (F.nS p.L.toNat a.length : Int)) = ((2 * n : Nat) : Int) := by
    have e : 2 * p.T * (F.nS p.L.toNat a.length : Int) = ((2 * n : Nat) : Int) := by rw [Int.mul_assoc, hcost.out]; omega
    rw [e]
    exact wrapI _ (by omega) (by omega)
  have u5 : IntKind.i64.wrap (p.T * (F.nS p.L.toNat a.length : Int)) = (n : Int) := by
    rw [hcost.out]
    exact wrapI _ (by omega) (by omega)
  replace hn := Lib.hid hn
  replace eK := Lib.hid eK
  replace hu := Lib.hid hu
  replace h1 := Lib.hid h1
  replace h3 := Lib.hid h3
  have t8 : z.length < 2 * n := by omega
  clear hx
  obtain ⟨Aa, ca, rfl⟩ := rk_form ha
  obtain ⟨At, ct, rfl⟩ := rk_form ht
  obtain ⟨Az, cz, rfl⟩ := rk_form hz
  obtain ⟨Aw, cw, rfl⟩ := rk_form hw
  have HP := (Blk.new w (planC p) 33).alloc (.cells #[.slice Aa a.length ca, .slice At t.length ct, .slice Az z.length cz] 116)
  have HQ := Blk.new' (w.alloc (.cells (planC p) 33)) #[.slice Aa a.length ca, .slice At t.length ct, .slice Az z.length cz] 116 (World.size_alloc _ _)
  have hB := below_alloc (below_alloc (Below.refl w.heap.size w) (.cells (planC p) 33)) (.cells #[.slice Aa a.length ca, .slice At t.length ct, .slice Az z.length cz] 116)
  replace ha := ha.below hB
  replace ht := ht.below hB
  replace hz := hz.below hB
  replace hw := hw.below hB
  go_enter Try.func35, Try.ntmps35
  go_wp2_with fail
  generalize (w.alloc (.cells (planC p) 33)).alloc (.cells #[.slice Aa a.length ca, .slice At t.length ct, .slice Az z.length cz] 116) = w1 at *
  have q0 := HQ.cell 0 _ rfl
  have q1 := HQ.cell 1 _ rfl
  go_quiet (fail)
  replace HP := HP.below (pw_below_drewN (Below.refl _ _) nq)
  replace ha := ha.drewN nq
  replace ht := ht.drewN nq
  replace hz := hz.drewN nq
  replace HQ := HQ.below (pw_below_drewN (Below.refl _ _) nq)
  replace hw := hw.drewN nq
  replace hB := pw_below_drewN hB nq
  clear q0 q1
  generalize w1.drewN nq = w1' at *
  obtain ⟨c0, c1, c2, c3, c4, c5⟩ := cells6 HP
  go_wp2_with fail
  refine (light_c p _).mono ?_
  rintro e w2 ⟨rfl, h2⟩
  rw [hL.out]
  replace HP := HP.below h2
  replace hB := bt_ hB h2
  replace ha := ha.below h2
  replace ht := ht.below h2
  replace hz := hz.below h2
  replace HQ := HQ.below h2
  replace hw := hw.below h2
  clear c0 c1 c2 c3 c4 c5
  obtain ⟨c0, c1, c2, c3, c4, c5⟩ := cells6 HP
  clear h2
  go_wp2_with fail
  refine (rRight_yes p h _).mono ?_
  rintro e w3 ⟨rfl, h3⟩
  replace HP := HP.below h3
  replace hB := bt_ hB h3
  replace ha := ha.below h3
  replace ht := ht.below h3
  replace hz := hz.below h3
  replace HQ := HQ.below h3
  replace hw := hw.below h3
  clear c0 c1 c2 c3 c4 c5
  obtain ⟨c0, c1, c2, c3, c4, c5⟩ := cells6 HP
  clear h3
  go_wp2_with fail
  refine (rCost_c p h a.length hl _).mono ?_
  rintro e w4 ⟨rfl, h4⟩
  rw [hcost.out]
  replace HP := HP.below h4
  replace hB := bt_ hB h4
  replace ha := ha.below h4
  replace ht := ht.below h4
  replace hz := hz.below h4
  replace HQ := HQ.below h4
  replace hw := hw.below h4
  clear c0 c1 c2 c3 c4 c5
  obtain ⟨c0, c1, c2, c3, c4, c5⟩ := cells6 HP
  clear h4
  go_wp2_with fail
  refine (rPoints_c _ who _ hw (by omega)).mono ?_
  rintro e w5 ⟨vP, rfl, oP, h5⟩
  replace HP := HP.below h5
  replace hB := bt_ hB h5
  replace ha := ha.below h5
  replace ht := ht.below h5
  replace hz := hz.below h5
  replace HQ := HQ.below h5
  replace hw := hw.below h5
  clear c0 c1 c2 c3 c4 c5
  obtain ⟨c0, c1, c2, c3, c4, c5⟩ := cells6 HP
  clear h5
  go_wp2_with fail
  refine (rUnlike_c _ _ _ oP.rk).mono ?_
  rintro e w6 ⟨rfl, h6⟩
  rw [hud.out]
  replace h6 := h6.below
  replace HP := HP.below h6
  replace hB := bt_ hB h6
  replace ha := ha.below h6
  replace ht := ht.below h6
  replace hz := hz.below h6
  replace HQ := HQ.below h6
  replace hw := hw.below h6
  clear c0 c1 c2 c3 c4 c5
  obtain ⟨c0, c1, c2, c3, c4, c5⟩ := cells6 HP
  clear h6 oP
  go_wp2_with fail
  refine (rStripes_c p h (a.length : Int) _).mono ?_
  rintro e w4 ⟨rfl, h4⟩
  rw [hst.out]
  replace HP := HP.below h4
  replace hB := bt_ hB h4
  replace ha := ha.below h4
  replace ht := ht.below h4
  replace hz := hz.below h4
  replace HQ := HQ.below h4
  replace hw := hw.below h4
  clear c0 c1 c2 c3 c4 c5
  obtain ⟨c0, c1, c2, c3, c4, c5⟩ := cells6 HP
  clear h4
  have q2 : _ = some (Value.slice Az z.length cz) := HQ.cell 2 _ rfl
  go_wp2_with fail
  refine (alive12 _).mono ?_
  rintro e w9 ⟨rfl, h⟩
  have hB := bt_ hB h
  clear h
  go_wp2
  go_ret
  exact ⟨rfl, hB⟩
set_option maxRecDepth 100000 in
set_option maxHeartbeats 6400000 in
theorem zeroKeeps_6 (p : Pl) (va vt vz vw : Value) (a t z : List F) (who : List Int) (w : World) (ha : Rb w va a) (ht : Rb w vt t) (hz : Rb w vz z) (hw : Ri w vw who) (hL0 : Lite p) (h : p.Ok) (hl60 : a.length ≤ 60) (n : Nat) (hn : p.T.toNat * F.nS p.L.toNat a.length = n) (K : Nat) (eK : p.T + p.L = K) (h1 : n ≤ t.length) (h2 : who.length ≤ 14) (h3 : K ≤ who.length) (hu : (who.map point).Nodup) (hx : 2 * n ≤ z.length) : Calls Try.prog 35 #[planV p, .agg #[va, vt, vz], vw] w fun e w' => e = .returned (.bool true) ∧ Below w.heap.size w w' := by
  have hL := Lib.hid (decide_eq_true hL0)
  have hl : a.length ≤ 240 := by omega
  have t3 : decide ((60 : Int) < (a.length : Int)) = false := decide_eq_false (by omega)
  have hcost := Lib.hid (cost_nat h hn)
  have u1 : IntKind.i64.wrap (p.T + p.L) = (K : Int) := by rw [eK]; exact wrapI _ (by omega) (by have := hL0.2.1; have := hL0.2.2; omega)
  have t5 : ¬ t.length < n := by omega
  have t6 : decide ((14 : Int) < (who.length : Int)) = false := decide_eq_false (by omega)
  have t7 : ¬ who.length < K := by omega
  have hud := Lib.hid (decide_eq_true hu)
  have hK : Hid (K < 255) := Lib.hid (by have := hL0.2.1; have := hL0.2.2; omega)
  have hst : Hid (stripesOf p (a.length : Int) = (F.nS p.L.toNat a.length : Int)) := Lib.hid (stripes_nat h a.length hl)
  have hTT : 1 ≤ p.T ∧ p.T ≤ 12 := ⟨h.t, hL0.2.2⟩
  have u3 : IntKind.i64.wrap (2 * p.T) = 2 * p.T := wrapI _ (by omega) (by omega)
  have hn99 : n ≤ 720 := by
    have e1 := F.nS_le_len p.L.toNat a.length (by have := h.l; omega)
    have e2 : p.T.toNat ≤ 12 := by omega
    rw [← hn]
    exact Nat.le_trans (Nat.mul_le_mul e2 (Nat.le_trans e1 hl60)) (by decide)
  have u4 : IntKind.i64.wrap (2 * p.T * (F.nS p.L.toNat a.length : Int)) = ((2 * n : Nat) : Int) := by
    have e : 2 * p.T * (F.nS p.L.toNat a.length : Int) = ((2 * n : Nat) : Int) := by rw [Int.mul_assoc, hcost.out]; omega
    rw [e]
    exact wrapI _ (by omega) (by omega)
  have u5 : IntKind.i64.wrap (p.T * (F.nS p.L.toNat a.length : Int)) = (n : Int) := by
    rw [hcost.out]
    exact wrapI _ (by omega) (by omega)
  replace hn := Lib.hid hn
  replace eK := Lib.hid eK
  replace hu := Lib.hid hu
  replace h1 := Lib.hid h1
  replace h3 := Lib.hid h3
  have t8 : ¬ z.length < 2 * n := by omega
  have hbk := fun hg => Lib.hid (zkBack p h K eK.out hK.out a t z (z.drop n) hl (by rw [hn.out]; exact h1.out) (by rw [hn.out]; omega) (by rw [hn.out, List.length_drop]; omega) who hg hu.out h3.out)
  have hmz : n ≤ z.length := by omega
  have hS60 : F.nS p.L.toNat a.length ≤ 60 := Nat.le_trans (F.nS_le_len p.L.toNat a.length (by have := h.l; omega)) hl60
  have hnI : Hid (p.T * (F.nS p.L.toNat a.length : Int) ≤ (z.length : Int)) := Lib.hid (by rw [hcost.out]; omega)
  have hnI2 : Hid (p.T * (F.nS p.L.toNat a.length : Int) ≤ ((z.drop n).length : Int)) := Lib.hid (by rw [hcost.out, List.length_drop]; omega)
  have eN : (p.N.toNat : Int) = p.N := by have := h.t; have := h.l; have := h.tl; have := h.wn; omega
  have tN : ((p.N.toNat : Int) != p.N) = false := by rw [eN]; simp
  have hN9 := hL0.1
  have hpt : Hid (p.T.toNat * F.nS p.L.toNat a.length ≤ t.length) := Lib.hid (by rw [hn.out]; exact h1.out)
  obtain ⟨Aa, ca, rfl⟩ := rk_form ha
  obtain ⟨At, ct, rfl⟩ := rk_form ht
  obtain ⟨Az, cz, rfl⟩ := rk_form hz
  obtain ⟨Aw, cw, rfl⟩ := rk_form hw
  have HP := (Blk.new w (planC p) 33).alloc (.cells #[.slice Aa a.length ca, .slice At t.length ct, .slice Az z.length cz] 116)
  have HQ := Blk.new' (w.alloc (.cells (planC p) 33)) #[.slice Aa a.length ca, .slice At t.length ct, .slice Az z.length cz] 116 (World.size_alloc _ _)
  have hB := below_alloc (below_alloc (Below.refl w.heap.size w) (.cells (planC p) 33)) (.cells #[.slice Aa a.length ca, .slice At t.length ct, .slice Az z.length cz] 116)
  replace ha := ha.below hB
  replace ht := ht.below hB
  replace hz := hz.below hB
  replace hw := hw.below hB
  go_enter Try.func35, Try.ntmps35
  go_wp2_with fail
  generalize (w.alloc (.cells (planC p) 33)).alloc (.cells #[.slice Aa a.length ca, .slice At t.length ct, .slice Az z.length cz] 116) = w1 at *
  have q0 := HQ.cell 0 _ rfl
  have q1 := HQ.cell 1 _ rfl
  go_quiet (fail)
  replace HP := HP.below (pw_below_drewN (Below.refl _ _) nq)
  replace ha := ha.drewN nq
  replace ht := ht.drewN nq
  replace hz := hz.drewN nq
  replace HQ := HQ.below (pw_below_drewN (Below.refl _ _) nq)
  replace hw := hw.drewN nq
  replace hB := pw_below_drewN hB nq
  clear q0 q1
  generalize w1.drewN nq = w1' at *
  obtain ⟨c0, c1, c2, c3, c4, c5⟩ := cells6 HP
  go_wp2_with fail
  refine (light_c p _).mono ?_
  rintro e w2 ⟨rfl, h2⟩
  rw [hL.out]
  replace HP := HP.below h2
  replace hB := bt_ hB h2
  replace ha := ha.below h2
  replace ht := ht.below h2
  replace hz := hz.below h2
  replace HQ := HQ.below h2
  replace hw := hw.below h2
  clear c0 c1 c2 c3 c4 c5
  obtain ⟨c0, c1, c2, c3, c4, c5⟩ := cells6 HP
  clear h2
  go_wp2_with fail
  refine (rRight_yes p h _).mono ?_
  rintro e w3 ⟨rfl, h3⟩
  replace HP := HP.below h3
  replace hB := bt_ hB h3
  replace ha := ha.below h3
  replace ht := ht.below h3
  replace hz := hz.below h3
  replace HQ := HQ.below h3
  replace hw := hw.below h3
  clear c0 c1 c2 c3 c4 c5
  obtain ⟨c0, c1, c2, c3, c4, c5⟩ := cells6 HP
  clear h3
  go_wp2_with fail
  refine (rCost_c p h a.length hl _).mono ?_
  rintro e w4 ⟨rfl, h4⟩
  rw [hcost.out]
  replace HP := HP.below h4
  replace hB := bt_ hB h4
  replace ha := ha.below h4
  replace ht := ht.below h4
  replace hz := hz.below h4
  replace HQ := HQ.below h4
  replace hw := hw.below h4
  clear c0 c1 c2 c3 c4 c5
  obtain ⟨c0, c1, c2, c3, c4, c5⟩ := cells6 HP
  clear h4
  go_wp2_with fail
  refine (rPoints_c _ who _ hw (by omega)).mono ?_
  rintro e w5 ⟨vP, rfl, oP, h5⟩
  replace HP := HP.below h5
  replace hB := bt_ hB h5
  replace ha := ha.below h5
  replace ht := ht.below h5
  replace hz := hz.below h5
  replace HQ := HQ.below h5
  replace hw := hw.below h5
  clear c0 c1 c2 c3 c4 c5
  obtain ⟨c0, c1, c2, c3, c4, c5⟩ := cells6 HP
  clear h5
  go_wp2_with fail
  refine (rUnlike_c _ _ _ oP.rk).mono ?_
  rintro e w6 ⟨rfl, h6⟩
  rw [hud.out]
  replace h6 := h6.below
  replace HP := HP.below h6
  replace hB := bt_ hB h6
  replace ha := ha.below h6
  replace ht := ht.below h6
  replace hz := hz.below h6
  replace HQ := HQ.below h6
  replace hw := hw.below h6
  clear c0 c1 c2 c3 c4 c5
  obtain ⟨c0, c1, c2, c3, c4, c5⟩ := cells6 HP
  clear h6 oP
  go_wp2_with fail
  refine (rStripes_c p h (a.length : Int) _).mono ?_
  rintro e w4 ⟨rfl, h4⟩
  rw [hst.out]
  replace HP := HP.below h4
  replace hB := bt_ hB h4
  replace ha := ha.below h4
  replace ht := ht.below h4
  replace hz := hz.below h4
  replace HQ := HQ.below h4
  replace hw := hw.below h4
  clear c0 c1 c2 c3 c4 c5
  obtain ⟨c0, c1, c2, c3, c4, c5⟩ := cells6 HP
  clear h4
  have q2 : _ = some (Value.slice Az z.length cz) := HQ.cell 2 _ rfl
  go_wp2_with fail
  refine (new_x _).mono ?_
  rintro e w3 ⟨bF, rfl, hF, h4⟩
  replace HP := HP.below h4
  replace hB := bt_ hB h4
  replace ha := ha.below h4
  replace ht := ht.below h4
  replace hz := hz.below h4
  replace HQ := HQ.below h4
  replace hw := hw.below h4
  clear c0 c1 c2 c3 c4 c5
  obtain ⟨c0, c1, c2, c3, c4, c5⟩ := cells6 HP
  clear h4 q2
  have q2 : _ = some (Value.slice Az z.length cz) := HQ.cell 2 _ rfl
  go_wp2_with fail
  refine (rPolys10_c p h _ _ a t _ ha ht hl hpt.out).mono ?_
  rintro e w4 ⟨vP, rfl, oP, h4⟩
  replace hF := hF.below h4
  have hPo := oP.rk
  replace HP := HP.below h4
  replace hB := bt_ hB h4
  replace ha := ha.below h4
  replace ht := ht.below h4
  replace hz := hz.below h4
  replace HQ := HQ.below h4
  replace hw := hw.below h4
  clear c0 c1 c2 c3 c4 c5
  obtain ⟨c0, c1, c2, c3, c4, c5⟩ := cells6 HP
  clear h4 q2 oP
  have q2 : _ = some (Value.slice Az z.length cz) := HQ.cell 2 _ rfl
  generalize hS : F.nS p.L.toNat a.length = S at *
  replace hS := Lib.hid hS
  go_wp2_with fail
  refine (zZero_ok bF p h S (by omega) _ z _ hF hz hnI.out).mono ?_
  rintro e w5 ⟨vA, rfl, oA, h5⟩
  replace hF := hF.below h5
  replace hPo := hPo.below h5
  replace HP := HP.below h5
  replace hB := bt_ hB h5
  replace ha := ha.below h5
  replace ht := ht.below h5
  replace hz := hz.below h5
  replace HQ := HQ.below h5
  replace hw := hw.below h5
  clear c0 c1 c2 c3 c4 c5
  obtain ⟨c0, c1, c2, c3, c4, c5⟩ := cells6 HP
  clear h5 q2
  replace oA := oA.rk
  have hz1 : Hid (∀ (v : Value) (W : World), IsField W bF → Rb W v (z.drop n) → Calls Try.prog 113 #[fp bF, planV p, .int .i64 (S : Int), v] W fun e W' => ∃ y, e = .returned (.tuple #[y, .int .i64 0]) ∧ Rbb W' y (((allOf p).map point).map (zsh p.T.toNat (F.rt (secretsAt p)) (z.drop n) S)) ∧ Below W.heap.size W W') := Lib.hid (fun v W f1 f2 => (zZero_ok bF p h S (by omega) v (z.drop n) W f1 f2 hnI2.out).mono (fun e W' ⟨y, g1, g2, g3⟩ => ⟨y, g1, g2.rk, g3⟩))
  have hlZ : Hid ((((allOf p).map point).map (zsh p.T.toNat (F.rt (secretsAt p)) z S)).length = p.N.toNat) := Lib.hid (by rw [List.length_map, List.length_map, all_len])
  have hlZ1 : Hid ((((allOf p).map point).map (zsh p.T.toNat (F.rt (secretsAt p)) (z.drop n) S)).length = p.N.toNat) := Lib.hid (by rw [List.length_map, List.length_map, all_len])
  have hat : Hid (∀ (z' : List F) (m : Nat), m < p.N.toNat → (((allOf p).map point).map (zsh p.T.toNat (F.rt (secretsAt p)) z' S)).getD m [] = zsh p.T.toNat (F.rt (secretsAt p)) z' S (point ((m : Int) + 1))) := Lib.hid (fun z' m hm => by
    rw [map_getD _ _ 0 [] m (by rw [List.length_map, all_len]; exact hm), map_getD (allOf p) point 0 0 m (by rw [all_len]; exact hm), all_getD p m hm])
  have hat0 := Lib.hid (hat.out z)
  have hat1 := Lib.hid (hat.out (z.drop n))
  generalize hZ0e : ((allOf p).map point).map (zsh p.T.toNat (F.rt (secretsAt p)) z S) = Z0 at *
  generalize hZ1e : ((allOf p).map point).map (zsh p.T.toNat (F.rt (secretsAt p)) (z.drop n) S) = Z1 at *
  replace hZ0e := Lib.hid hZ0e
  replace hZ1e := Lib.hid hZ1e
  obtain ⟨A0, n0, rfl⟩ := rk_form oA
  have hB9 := hB
  clear hB c0 c1 c2 c3 c4 c5
  go_wp2_with fail
  refine wp_region_tell [.v (fp bF), .v (planV p), .v (.int .i64 (S : Int)), .v (.pointer (some ⟨w.heap.size + 1, 2, none⟩)), .v (.slice Az z.length cz), .v (.pointer (some ⟨w.heap.size, 1, none⟩)), .v (.int .i64 p.T), .v (.int .i64 (S : Int)), .v (.int .i64 (n : Int)), .p (isB (z.drop n)), .p (isTBB Z1 (.int .i64 0)), .p (isTBB Z1 (.int .i64 0)), .p (isBB Z1), .v (.int .i64 0), .p (isBB Z1), .v (.int .i64 0)] [([], none), ([], none), ([], none), ([], none), ([(3, some 101)], none), ([], none), ([(5, some 103)], none), ([], none), ([(6, some 104), (7, some 105)], none), ([(4, some 102), (8, some 106)], none), ([(0, some 98), (1, some 99), (2, some 100), (9, some 107)], none), ([(10, some 108)], none), ([(11, some 97)], none), ([(11, some 97)], none), ([(12, some 109)], none), ([(13, some 110)], none)] [(0, some 98), (1, some 99), (2, some 100), (3, some 101), (4, some 102), (5, some 103), (6, some 104), (7, some 105), (8, some 106), (9, some 107), (10, some 108), (11, some 97), (12, some 109), (13, some 110), (14, some 14), (15, some 15)] (by kernel_rfl) (by kernel_rfl) (by kernel_rfl) (by kernel_rfl) (by exact ⟨trivial, trivial, trivial, trivial, trivial, trivial, trivial, trivial, trivial, last_B _, last_TBB _ _, last_TBB _ _, last_BB _, trivial, last_BB _, trivial, trivial⟩) ⟨?s0, ?s1, ?s2, ?s3, ?s4, ?s5, ?s6, ?s7, ?s8, ?s9, ?s10, ?s11, ?s12, ?s13, ?s14, ?s15, trivial⟩ ?hQ
  case s0 =>
    intro W hB K hK
    simp only [tellK, Act.put, List.setIfInBounds_toArray, List.set_cons_zero, List.set_cons_succ] at hK ⊢
    refine tell_do rfl ?_
    obtain ⟨c0, c1, c2, c3, c4, c5⟩ := cells6 (HP.below hB); have q2 : _ = some (Value.slice Az z.length cz) := (HQ.below hB).cell 2 _ rfl
    go_simp
    exact hK _ (Below.refl _ _)
  case s1 =>
    intro W hB K hK
    simp only [tellK, Act.put, List.setIfInBounds_toArray, List.set_cons_zero, List.set_cons_succ] at hK ⊢
    refine tell_do rfl ?_
    obtain ⟨c0, c1, c2, c3, c4, c5⟩ := cells6 (HP.below hB); have q2 : _ = some (Value.slice Az z.length cz) := (HQ.below hB).cell 2 _ rfl
    go_simp
    exact hK _ (Below.refl _ _)
  case s2 =>
    intro W hB K hK
    simp only [tellK, Act.put, List.setIfInBounds_toArray, List.set_cons_zero, List.set_cons_succ] at hK ⊢
    refine tell_do rfl ?_
    obtain ⟨c0, c1, c2, c3, c4, c5⟩ := cells6 (HP.below hB); have q2 : _ = some (Value.slice Az z.length cz) := (HQ.below hB).cell 2 _ rfl
    go_simp
    exact hK _ (Below.refl _ _)
  case s3 =>
    intro W hB K hK
    simp only [tellK, Act.put, List.setIfInBounds_toArray, List.set_cons_zero, List.set_cons_succ] at hK ⊢
    refine tell_do rfl ?_
    obtain ⟨c0, c1, c2, c3, c4, c5⟩ := cells6 (HP.below hB); have q2 : _ = some (Value.slice Az z.length cz) := (HQ.below hB).cell 2 _ rfl
    go_simp
    exact hK _ (Below.refl _ _)
  case s4 =>
    intro W hB K hK
    simp only [tellK, Act.put, List.setIfInBounds_toArray, List.set_cons_zero, List.set_cons_succ] at hK ⊢
    refine tell_do rfl ?_
    obtain ⟨c0, c1, c2, c3, c4, c5⟩ := cells6 (HP.below hB); have q2 : _ = some (Value.slice Az z.length cz) := (HQ.below hB).cell 2 _ rfl
    go_simp
    exact hK _ (Below.refl _ _)
  case s5 =>
    intro W hB K hK
    simp only [tellK, Act.put, List.setIfInBounds_toArray, List.set_cons_zero, List.set_cons_succ] at hK ⊢
    refine tell_do rfl ?_
    obtain ⟨c0, c1, c2, c3, c4, c5⟩ := cells6 (HP.below hB); have q2 : _ = some (Value.slice Az z.length cz) := (HQ.below hB).cell 2 _ rfl
    go_simp
    exact hK _ (Below.refl _ _)
  case s6 =>
    intro W hB K hK
    simp only [tellK, Act.put, List.setIfInBounds_toArray, List.set_cons_zero, List.set_cons_succ] at hK ⊢
    refine tell_do rfl ?_
    obtain ⟨c0, c1, c2, c3, c4, c5⟩ := cells6 (HP.below hB); have q2 : _ = some (Value.slice Az z.length cz) := (HQ.below hB).cell 2 _ rfl
    go_simp
    exact hK _ (Below.refl _ _)
  case s7 =>
    intro W hB K hK
    simp only [tellK, Act.put, List.setIfInBounds_toArray, List.set_cons_zero, List.set_cons_succ] at hK ⊢
    refine tell_do rfl ?_
    obtain ⟨c0, c1, c2, c3, c4, c5⟩ := cells6 (HP.below hB); have q2 : _ = some (Value.slice Az z.length cz) := (HQ.below hB).cell 2 _ rfl
    go_simp
    exact hK _ (Below.refl _ _)
  case s8 =>
    intro W hB K hK
    simp only [tellK, Act.put, List.setIfInBounds_toArray, List.set_cons_zero, List.set_cons_succ] at hK ⊢
    refine tell_do rfl ?_
    obtain ⟨c0, c1, c2, c3, c4, c5⟩ := cells6 (HP.below hB); have q2 : _ = some (Value.slice Az z.length cz) := (HQ.below hB).cell 2 _ rfl
    go_simp
    exact hK _ (Below.refl _ _)
  case s9 =>
    intro W hB K hK
    simp only [tellK, Act.put, List.setIfInBounds_toArray, List.set_cons_zero, List.set_cons_succ] at hK ⊢
    refine tell_do rfl ?_
    obtain ⟨c0, c1, c2, c3, c4, c5⟩ := cells6 (HP.below hB); have q2 : _ = some (Value.slice Az z.length cz) := (HQ.below hB).cell 2 _ rfl
    go_simp
    exact hK _ _ (rk_dropO (hz.below hB) hmz) (Below.refl _ _)
  case s10 =>
    intro W hB v9 h9 K hK
    replace h9 : Rb W v9 (z.drop n) := h9
    simp only [tellK, Act.put, List.setIfInBounds_toArray, List.set_cons_zero, List.set_cons_succ] at hK ⊢
    refine tell_do rfl ?_
    obtain ⟨c0, c1, c2, c3, c4, c5⟩ := cells6 (HP.below hB); have q2 : _ = some (Value.slice Az z.length cz) := (HQ.below hB).cell 2 _ rfl
    go_simp
    go_at_call 113; refine (hz1.out _ _ (hF.below hB) h9).mono ?_; rintro e w6 ⟨y, rfl, hY, h6⟩; exact hK _ _ ⟨y, rfl, hY⟩ h6
  case s11 =>
    intro W hB v10 h10 K hK
    obtain ⟨z10, rfl, h10⟩ := h10
    simp only [tellK, Act.put, List.setIfInBounds_toArray, List.set_cons_zero, List.set_cons_succ] at hK ⊢
    refine tell_do rfl ?_
    obtain ⟨c0, c1, c2, c3, c4, c5⟩ := cells6 (HP.below hB); have q2 : _ = some (Value.slice Az z.length cz) := (HQ.below hB).cell 2 _ rfl
    go_simp
    exact hK _ _ ⟨_, rfl, h10⟩ (Below.refl _ _)
  case s12 =>
    intro W hB v11 h11 K hK
    obtain ⟨z11, rfl, h11⟩ := h11
    simp only [tellK, Act.put, List.setIfInBounds_toArray, List.set_cons_zero, List.set_cons_succ] at hK ⊢
    refine tell_do rfl ?_
    obtain ⟨c0, c1, c2, c3, c4, c5⟩ := cells6 (HP.below hB); have q2 : _ = some (Value.slice Az z.length cz) := (HQ.below hB).cell 2 _ rfl
    go_simp
    exact hK _ _ h11 (Below.refl _ _)
  case s13 =>
    intro W hB v11 h11 K hK
    obtain ⟨z11, rfl, h11⟩ := h11
    simp only [tellK, Act.put, List.setIfInBounds_toArray, List.set_cons_zero, List.set_cons_succ] at hK ⊢
    refine tell_do rfl ?_
    obtain ⟨c0, c1, c2, c3, c4, c5⟩ := cells6 (HP.below hB); have q2 : _ = some (Value.slice Az z.length cz) := (HQ.below hB).cell 2 _ rfl
    go_simp
    exact hK _ (Below.refl _ _)
  case s14 =>
    intro W hB v12 h12 K hK
    replace h12 : Rbb W v12 Z1 := h12
    simp only [tellK, Act.put, List.setIfInBounds_toArray, List.set_cons_zero, List.set_cons_succ] at hK ⊢
    refine tell_do rfl ?_
    obtain ⟨c0, c1, c2, c3, c4, c5⟩ := cells6 (HP.below hB); have q2 : _ = some (Value.slice Az z.length cz) := (HQ.below hB).cell 2 _ rfl
    go_simp
    exact hK _ _ h12 (Below.refl _ _)
  case s15 =>
    intro W hB K hK
    simp only [tellK, Act.put, List.setIfInBounds_toArray, List.set_cons_zero, List.set_cons_succ] at hK ⊢
    refine tell_do rfl ?_
    obtain ⟨c0, c1, c2, c3, c4, c5⟩ := cells6 (HP.below hB); have q2 : _ = some (Value.slice Az z.length cz) := (HQ.below hB).cell 2 _ rfl
    go_simp
    exact hK _ (Below.refl _ _)
  case hQ =>
    intro W hB v9 h9 v10 h10 v11 h11 v12 h12 v14 h14
    replace h9 : Rb W v9 (z.drop n) := h9
    obtain ⟨z10, rfl, h10⟩ := h10
    obtain ⟨z11, rfl, h11⟩ := h11
    replace h12 : Rbb W v12 Z1 := h12
    replace h14 : Rbb W v14 Z1 := h14
    simp only [tellGo, sayAt, List.getD_cons_zero, List.getD_cons_succ, Act.put, List.setIfInBounds_toArray, List.set_cons_zero, List.set_cons_succ]
    obtain ⟨A1, n1, rfl⟩ := rk_form h14
    replace hF := hF.below hB
    replace hPo := hPo.below hB
    replace oA := oA.below hB
    replace ha := ha.below hB
    replace hw := hw.below hB
    replace HP := HP.below hB
    replace hB9 := bt_ hB9 hB
    clear h9 h10 h11 h12 hB
    rw [hlZ.out] at oA ⊢
    rw [hlZ1.out] at h14 ⊢
    generalize hNN : p.N.toNat = N at *
    replace hNN := Lib.hid hNN
    have hN12 : N ≤ 12 := by omega
    replace eN := Lib.hid eN
    obtain ⟨c0, c1, c2, c3, c4, c5⟩ := cells6 HP
    go_wp2_with fail
    have hPl : Hid ((polysOf p a t).length ≤ 1000000) := Lib.hid (by rw [polys_len, hS.out]; omega)
    have hRl : Hid (∀ x, ∀ r ∈ [F.dshare (polysOf p a t) x, zsh p.T.toNat (F.rt (secretsAt p)) z S x, zsh p.T.toNat (F.rt (secretsAt p)) (z.drop n) S x], r.length ≤ 1000000) := Lib.hid (fun x r hr => by
      simp only [List.mem_cons, List.not_mem_nil, or_false] at hr
      rcases hr with rfl | rfl | rfl
      · rw [F.dshare_len, polys_len, hS.out]; omega
      · rw [zsh_len]; omega
      · rw [zsh_len]; omega)
    have hzk : Hid (∀ x, F.addAll [F.dshare (polysOf p a t) x, zsh p.T.toNat (F.rt (secretsAt p)) z S x, zsh p.T.toNat (F.rt (secretsAt p)) (z.drop n) S x] = zkS p a t z (z.drop n) x) := Lib.hid (fun x => by unfold zkS; rw [hS.out])
    have hdd : Hid (∀ x, (polysOf p a t).map (F.ev x) = F.dshare (polysOf p a t) x) := Lib.hid (fun x => rfl)
    clear c0 c1 c2 c3 c4 c5
    go_loopw [16, 18, 133] (fun s _ i wr => ∃ k : Nat, k ≤ who.length ∧ i = .int .i64 k ∧ Obb W wr s ((who.take k).map fun i => zkS p a t z (z.drop n) (point i)) ∧ Hid (∀ j ∈ who.take k, 1 ≤ j ∧ j ≤ p.N) ∧ Below W.heap.size W wr) (fun _ _ i _ => who.length - (intOf i).toNat)
    case atStart => exact ⟨0, by omega, rfl, Own.nil _ _ _ _, Lib.hid (fun j hj => by simp at hj), Below.refl _ _⟩
    case round =>
      obtain ⟨k, hk, rfl, hO, hus, hD⟩ := hrel
      by_cases hlt : k < who.length
      · obtain ⟨ad, e1, d9⟩ := ki_at (ri_C hw) k hlt
        subst e1
        replace d9 := pw_cell_below hD d9
        have hti := Lib.hid (take_snoc' who k 0 hlt)
        have hlen2 : Hid (((who.take k).map fun i => zkS p a t z (z.drop n) (point i)).length + 1 ≤ 1000000000) := Lib.hid (by rw [List.length_map, List.length_take]; omega)
        generalize who.getD k 0 = i at *
        obtain ⟨c0, c1, c2, c3, c4, c5⟩ := cells6 (HP.below hD)
        by_cases hin : 1 ≤ i ∧ i ≤ p.N
        · have hd := Lib.hid (decide_eq_true hin)
          obtain ⟨m, hm⟩ : ∃ m : Nat, i - 1 = (m : Int) := ⟨(i - 1).toNat, by omega⟩
          have u2 : IntKind.i64.wrap (i - 1) = (m : Int) := by rw [hm]; exact wrapI _ (by omega) (by omega)
          have hmN : m < N := by have := eN.out; omega
          have hmi : (m : Int) < (N : Int) := by omega
          have hm1 : (m : Int) + 1 = i := by omega
          obtain ⟨ad0, u0, e0, d0, hu0⟩ := kbb_at (rk_C oA) m (by rw [hlZ.out]; exact hmN)
          obtain ⟨ad1, u1', e1, d1, hu1⟩ := kbb_at (rk_C h14) m (by rw [hlZ1.out]; exact hmN)
          subst e0
          subst e1
          rw [hat0.out m hmN, hm1] at hu0
          rw [hat1.out m hmN, hm1] at hu1
          replace hin := Lib.hid hin
          clear hm hm1
          obtain ⟨B0, m0, l0, rfl⟩ : ∃ A m c, u0 = .slice A m c := (rk_form hu0).elim fun A h => h.elim fun c h => ⟨A, _, c, h⟩
          obtain ⟨B1, m1, l1, rfl⟩ : ∃ A m c, u1' = .slice A m c := (rk_form hu1).elim fun A h => h.elim fun c h => ⟨A, _, c, h⟩
          have hG := Lib.hid (hdd.out (point i))
          have hR3 := Lib.hid (hRl.out (point i))
          have hK3 := Lib.hid (hzk.out (point i))
          generalize hZK : zkS p a t z (z.drop n) (point i) = row at *
          generalize zsh p.T.toNat (F.rt (secretsAt p)) z S (point i) = D0 at *
          generalize zsh p.T.toNat (F.rt (secretsAt p)) (z.drop n) S (point i) = D1 at *
          generalize F.dshare (polysOf p a t) (point i) = G at *
          replace hZK := Lib.hid hZK
          go_wp2_with fail
          refine (rIs_c p i _).mono ?_
          rintro e w5 ⟨rfl, h5⟩
          rw [hd.out]
          replace hO := hO.below h5
          replace hD := bt_ hD h5
          clear h5 c0 c1 c2 c3 c4 c5 d9
          have b0 := pw_cell_below hD d0
          have b1 := pw_cell_below hD d1
          go_wp2_with fail
          go_region_held3 (fun w' => w'.cell? (ad0.add m) = some (.slice B0 m0 l0) ∧ w'.cell? (ad1.add m) = some (.slice B1 m1 l1))
            (go_keep)
            (first
            | (go_at_call 100; refine (rShare10_c _ (polysOf p a t) i _ (by first | exact hPo.below hD | exact (hPo.below hD).drew | exact (hPo.below hD).drewN _) hPl.out).mono ?_; rintro e w6 ⟨vM, rfl, sM, h6⟩; replace sM := sM.rk; rw [hG.out] at sM; obtain ⟨A6, c6, rfl⟩ := rk_form sM; (repeat (first | replace h6 := ba h6 | replace h6 := buN h6 | replace h6 := bu h6)); replace hD := bt_ hD h6; replace hO := hO.below h6; replace b0 := pw_cell_below hD d0; replace b1 := pw_cell_below hD d1)
            | (go_at_call 118; refine (zAdd_c _ [G, D0, D1] _ (by first | exact lit_bb3 _ _ _ _ _ _ _ _ sM (hu0.below hD) (hu1.below hD) | exact (lit_bb3 _ _ _ _ _ _ _ _ sM (hu0.below hD) (hu1.below hD)).drewN _) (show 3 ≤ 1000 by decide) hR3.out).mono ?_; rintro e w7 ⟨vN, rfl, sN, h7⟩; rw [hK3.out] at sN; obtain ⟨A7, c7, rfl⟩ := rk_form sN.rk; replace sN := sN.lower (w0 := W) (below_alloc hD _); (repeat (first | replace h7 := ba h7 | replace h7 := buN h7 | replace h7 := bu h7)); replace hD := bt_ hD h7; replace hO := hO.below h7; replace b0 := pw_cell_below hD d0; replace b1 := pw_cell_below hD d1)
            | (refine step_app_r (w0 := W) (by rfl) (.tmp 142) (.tmp 158) (by rfl) _ _ _ _ (by rfl) (by rfl) hO sN hD hlen2.out ?_; intro v8 w8 hO8 hB8 hg8; replace b0 := pw_cell_below hB8 d0; replace b1 := pw_cell_below hB8 d1)
            | fail)
          go_wp2
          refine ⟨⟨k + 1, by omega, by go_num, by rw [hti.out, List.map_append]; show Own _ _ _ _ _ (_ ++ [zkS p a t z (z.drop n) (point i)]); rw [hZK.out]; exact hO8, Lib.hid (fun j hj => ?_), hB8⟩, by simp [intOf]; try omega⟩
          rw [hti.out] at hj
          rcases List.mem_append.1 hj with hj | hj
          · exact hus.out j hj
          · have : j = i := by simpa using hj
            rw [this]; exact hin.out
        · have hd := Lib.hid (decide_eq_false hin)
          go_wp2_with fail
          refine (rIs_c p i _).mono ?_
          rintro e w5 ⟨rfl, h5⟩
          rw [hd.out]
          have hB := bt_ (bt_ hB9 hD) h5
          go_wp2_with fail
          refine (alive12 _).mono ?_
          rintro e w9 ⟨rfl, h⟩
          have hB := bt_ hB h
          clear h
          go_wp2
          go_ret
          exact ⟨rfl, hB⟩
      · obtain rfl : k = who.length := by omega
        have hgw : ∀ i ∈ who, 1 ≤ i ∧ i ≤ p.N := fun i hi => hus.out i (by rw [List.take_length]; exact hi)
        rw [List.take_length] at hO
        obtain ⟨b1, b2, b3⟩ := (hbk hgw).out
        replace b1 := Lib.hid b1
        replace b2 := Lib.hid b2
        replace b3 := Lib.hid b3
        replace hF := hF.below hD
        replace ha := ha.below hD
        replace hw := hw.below hD
        replace HP := HP.below hD
        replace hB9 := bt_ hB9 hD
        have hSh := hO.rk
        generalize (who.map fun i => zkS p a t z (z.drop n) (point i)) = sh at *
        clear hO hus hD
        obtain ⟨c0, c1, c2, c3, c4, c5⟩ := cells6 HP
        have hwl : who.length ≤ 1000 := by omega
        go_wp2_with fail
        refine (rbBlob_ok bF p h a.length hl K eK.out hK.out _ _ who sh _ hF hw hSh hwl b1.out).mono ?_
        rintro e w5 ⟨zz, rfl, sZ, h5⟩
        rw [hS.out, b2.out] at sZ
        replace sZ := sZ.rk
        replace hF := hF.below h5
        replace hSh := hSh.below h5
        replace ha := ha.below h5
        replace hw := hw.below h5
        replace HP := HP.below h5
        replace hB9 := bt_ hB9 h5
        clear c0 c1 c2 c3 c4 c5 h5
        obtain ⟨c0, c1, c2, c3, c4, c5⟩ := cells6 HP
        go_wp2_with fail
        refine (rSame_c _ _ a a _ sZ ha).mono ?_
        rintro e w6 ⟨rfl, h6⟩
        rw [decide_eq_true (rfl : a = a)]
        replace h6 := h6.below
        replace hF := hF.below h6
        replace hSh := hSh.below h6
        replace hw := hw.below h6
        replace HP := HP.below h6
        replace hB9 := bt_ hB9 h6
        clear c0 c1 c2 c3 c4 c5 h6 sZ ha
        obtain ⟨c0, c1, c2, c3, c4, c5⟩ := cells6 HP
        go_wp2_with fail
        refine (rbAgree_ok bF p h a.length hl K eK.out hK.out _ _ who sh _ hF hw hSh hwl b1.out).mono ?_
        rintro e w7 ⟨bb, rfl, hbb, h7⟩
        rw [hS.out] at hbb
        obtain rfl : bb = true := hbb.2 b3.out
        have hB := bt_ hB9 h7
        go_wp2_with fail
        refine (alive12 _).mono ?_
        rintro e w9 ⟨rfl, h⟩
        have hB := bt_ hB h
        clear h
        go_wp2
        go_ret
        exact ⟨rfl, hB⟩
set_option maxRecDepth 100000 in
theorem ZeroKeeps_walk (w : World) (N : Int) (hN : -9223372036854775808 ≤ N ∧ N ≤ 9223372036854775807) (T : Int) (hT : -9223372036854775808 ≤ T ∧ T ≤ 9223372036854775807) (L : Int) (hL : -9223372036854775808 ≤ L ∧ L ≤ 9223372036854775807) (W : Int) (hW : -9223372036854775808 ≤ W ∧ W ≤ 9223372036854775807) (S : Int) (hS : -9223372036854775808 ≤ S ∧ S ≤ 9223372036854775807) (R : Int) (hR : -9223372036854775808 ≤ R ∧ R ≤ 9223372036854775807) (va : Value) (a : List F) (ha : Rb w va a) (vt : Value) (t : List F) (ht : Rb w vt t) (vz : Value) (z : List F) (hz : Rb w vz z) (vw : Value) (who : List Int) (hw : Ri w vw who) (hq : ∀ y ∈ who, -9223372036854775808 ≤ y ∧ y ≤ 9223372036854775807) :
   Calls Try.prog 35 #[.agg #[.int .i64 N, .int .i64 T, .int .i64 L, .int .i64 W, .int .i64 S, .int .i64 R], .agg #[va, vt, vz], vw] w fun e w' => e = .returned (.bool true) ∧ Below w.heap.size w w' := by
  by_cases hLt : Lite ⟨N, T, L, W, S, R⟩
  · have hi : Pl.In ⟨N, T, L, W, S, R⟩ := ⟨hN, hT, hL, hW, hS, hR⟩
    by_cases h : (Pl.mk N T L W S R).Ok
    · by_cases hl : a.length ≤ 60
      · obtain ⟨n, hn⟩ : ∃ n : Nat, (Pl.mk N T L W S R).T.toNat * F.nS (Pl.mk N T L W S R).L.toNat a.length = n := ⟨_, rfl⟩
        obtain ⟨K, eK⟩ : ∃ K : Nat, (Pl.mk N T L W S R).T + (Pl.mk N T L W S R).L = (K : Int) := ⟨(T + L).toNat, by have h1 := h.t; have h2 := h.l; show T + L = _; have h1 : 1 ≤ T := h1; have h2 : 1 ≤ L := h2; omega⟩
        by_cases h2 : n ≤ t.length ∧ who.length ≤ 14 ∧ K ≤ who.length
        · by_cases hu : (who.map point).Nodup
          · by_cases hz2 : 2 * n ≤ z.length
            · exact zeroKeeps_6 ⟨N, T, L, W, S, R⟩ va vt vz vw a t z who w ha ht hz hw hLt h hl n hn K eK h2.1 h2.2.1 h2.2.2 hu hz2
            · exact zeroKeeps_5 ⟨N, T, L, W, S, R⟩ va vt vz vw a t z who w ha ht hz hw hLt h hl n hn K eK h2.1 h2.2.1 h2.2.2 hu hz2
          · exact zeroKeeps_4 ⟨N, T, L, W, S, R⟩ va vt vz vw a t z who w ha ht hz hw hLt h hl n hn K eK h2.1 h2.2.1 h2.2.2 hu
        · exact zeroKeeps_3 ⟨N, T, L, W, S, R⟩ va vt vz vw a t z who w ha ht hz hw hLt h hl n hn K eK h2
      · exact zeroKeeps_2 ⟨N, T, L, W, S, R⟩ va vt vz vw a t z who w ha ht hz hw hLt h hl
    · exact zeroKeeps_1 ⟨N, T, L, W, S, R⟩ va vt vz vw a t z who w ha ht hz hw hi hLt h
  · exact zeroKeeps_0 ⟨N, T, L, W, S, R⟩ va vt vz vw a t z who w ha ht hz hw hLt
end Go.Proofs.Ytijeabhfddaoaaa
