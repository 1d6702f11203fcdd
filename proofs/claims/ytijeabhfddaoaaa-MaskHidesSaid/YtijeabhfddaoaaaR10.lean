/- The walks of the reference of layer 10: Cost, Share, Poly, Polys. -/
import Derived.Test.YtijeabhfddaoaaaR09
import Derived.Test.YtijeabhfddaoaaaR03
namespace Go.Proofs.Ytijeabhfddaoaaa
set_option linter.unusedVariables false
open Go.RowKit Go.Proofs.YtijeabhfddaoaaaW.PrintWords Go.Proofs.Sh

theorem ref_stripes (p : Pl) (h : p.Ok) (n : Nat) (hn : n ≤ 240) : ∃ s : Nat, s = F.nS p.L.toNat n ∧ s ≤ 240 ∧ ∀ W : World, Calls Try.prog 70 #[planV p, .int .i64 (n : Int)] W fun e W' => e = .returned (.int .i64 (s : Int)) ∧ Below W.heap.size W W' := by
  have hl := h.l
  refine ⟨_, rfl, Nat.le_trans (F.nS_le_len _ n (by omega)) hn, fun W => ?_⟩
  have := rStripes_c p h n W
  rw [stripes_nat h n hn] at this
  exact this
set_option maxRecDepth 100000 in
set_option maxHeartbeats 1600000 in
theorem rCost_c (p : Pl) (h : p.Ok) (n : Nat) (hn : n ≤ 240) (w : World) :
   Calls Try.prog 125 #[planV p, .int .i64 (n : Int)] w fun e w' => e = .returned (.int .i64 (p.T * (F.nS p.L.toNat n : Int))) ∧ Below w.heap.size w w' := by
  obtain ⟨s, e, hs, hS⟩ := ref_stripes p h n hn
  rw [← e]
  clear e
  have hT : 1 ≤ p.T ∧ p.T ≤ 256 := by have := h.t; have := h.tl; have := h.wn; have := h.nl; have := h.l; omega
  have u1 : IntKind.i64.wrap (p.T * (s : Int)) = p.T * (s : Int) := by
    have h1 : p.T * (s : Int) ≤ 256 * 240 := Int.mul_le_mul hT.2 (by omega) (by omega) (by omega)
    have h2 : 0 ≤ p.T * (s : Int) := Int.mul_nonneg (by omega) (by omega)
    exact wrapI _ (by omega) (by omega)
  have HP := Blk.new w (planC p) 33
  have hB0 := below_alloc (Below.refl w.heap.size w) (.cells (planC p) 33)
  go_enter Try.func125, Try.ntmps125
  go_wp2_with fail
  refine wp_region_tell [.v (.pointer (some ⟨w.heap.size, 1, none⟩)), .v (.int .i64 p.T), .v (planV p), .v (.int .i64 (n : Int)), .v (.int .i64 (s : Int)), .v (.int .i64 (p.T * (s : Int))), .v (.int .i64 (p.T * (s : Int)))] [([], none), ([(0, some 5)], none), ([], none), ([], none), ([(2, some 7), (3, some 8)], none), ([(1, some 6), (4, some 9)], none), ([(5, some 10)], none)] [(0, some 5), (1, some 6), (2, some 7), (3, some 8), (4, some 9), (5, some 10), (6, some 4)] (by kernel_rfl) (by kernel_rfl) (by kernel_rfl) (by kernel_rfl) (by exact ⟨trivial, trivial, trivial, trivial, trivial, trivial, trivial, trivial⟩) ⟨?s0, ?s1, ?s2, ?s3, ?s4, ?s5, ?s6, trivial⟩ ?hQ
  case s0 =>
    intro W hB K hK
    simp only [tellK, Act.put, List.setIfInBounds_toArray, List.set_cons_zero, List.set_cons_succ] at hK ⊢
    refine tell_do rfl ?_
    obtain ⟨c0, c1, c2, c3, c4, c5⟩ := cells6 (HP.below hB)
    go_simp
    exact hK _ (Below.refl _ _)
  case s1 =>
    intro W hB K hK
    simp only [tellK, Act.put, List.setIfInBounds_toArray, List.set_cons_zero, List.set_cons_succ] at hK ⊢
    refine tell_do rfl ?_
    obtain ⟨c0, c1, c2, c3, c4, c5⟩ := cells6 (HP.below hB)
    go_simp
    exact hK _ (Below.refl _ _)
  case s2 =>
    intro W hB K hK
    simp only [tellK, Act.put, List.setIfInBounds_toArray, List.set_cons_zero, List.set_cons_succ] at hK ⊢
    refine tell_do rfl ?_
    obtain ⟨c0, c1, c2, c3, c4, c5⟩ := cells6 (HP.below hB)
    go_simp
    exact hK _ (Below.refl _ _)
  case s3 =>
    intro W hB K hK
    simp only [tellK, Act.put, List.setIfInBounds_toArray, List.set_cons_zero, List.set_cons_succ] at hK ⊢
    refine tell_do rfl ?_
    obtain ⟨c0, c1, c2, c3, c4, c5⟩ := cells6 (HP.below hB)
    go_simp
    exact hK _ (Below.refl _ _)
  case s4 =>
    intro W hB K hK
    simp only [tellK, Act.put, List.setIfInBounds_toArray, List.set_cons_zero, List.set_cons_succ] at hK ⊢
    refine tell_do rfl ?_
    obtain ⟨c0, c1, c2, c3, c4, c5⟩ := cells6 (HP.below hB)
    go_simp
    go_at_call 70; refine (hS _).mono ?_; rintro e w6 ⟨rfl, h6⟩; exact hK _ h6
  case s5 =>
    intro W hB K hK
    simp only [tellK, Act.put, List.setIfInBounds_toArray, List.set_cons_zero, List.set_cons_succ] at hK ⊢
    refine tell_do rfl ?_
    obtain ⟨c0, c1, c2, c3, c4, c5⟩ := cells6 (HP.below hB)
    go_simp
    exact hK _ (Below.refl _ _)
  case s6 =>
    intro W hB K hK
    simp only [tellK, Act.put, List.setIfInBounds_toArray, List.set_cons_zero, List.set_cons_succ] at hK ⊢
    refine tell_do rfl ?_
    obtain ⟨c0, c1, c2, c3, c4, c5⟩ := cells6 (HP.below hB)
    go_simp
    exact hK _ (Below.refl _ _)
  case hQ =>
    intro W hB
    simp only [tellGo, sayAt, List.getD_cons_zero, List.getD_cons_succ, Act.put, List.setIfInBounds_toArray, List.set_cons_zero, List.set_cons_succ]
    go_wp2
    go_ret
    exact ⟨rfl, bt_ hB0 hB⟩
set_option maxRecDepth 100000 in
set_option maxHeartbeats 1600000 in
theorem rShare10_c (v : Value) (ls : List (List F)) (i : Int) (w : World) (hv : Rbb w v ls) (hl : ls.length ≤ 1000000) :
   Calls Try.prog 100 #[v, .int .i64 i] w fun e w' => ∃ z, e = .returned z ∧ Ob w w' z (ls.map (F.ev (point i))) ∧ Below w.heap.size w w' := by
  obtain ⟨A, c, rfl⟩ := rk_form hv
  have hB := Below.refl w.heap.size w
  go_enter Try.func100, Try.ntmps100
  go_wp2_with fail
  go_loopw [5, 6] (fun s j wr => ∃ k : Nat, k ≤ ls.length ∧ j = .int .i64 k ∧ Ob w wr s ((ls.take k).map (F.ev (point i))) ∧ Below w.heap.size w wr) (fun _ j _ => ls.length - (intOf j).toNat)
  case atStart => exact ⟨0, by omega, rfl, Own.nil _ _ _ _, hB⟩
  case round =>
    clear hB
    obtain ⟨k, hk, rfl, hO, hB⟩ := hrel
    by_cases hlt : k < ls.length
    · obtain ⟨ad, u2, rfl, d0, hu2⟩ := kbb_at (rk_C hv) k hlt
      have HS : Hid ((ls.take (k + 1)).map (F.ev (point i)) = (ls.take k).map (F.ev (point i)) ++ [F.ev (point i) (ls.getD k [])]) := Lib.hid (by rw [take_snoc' ls k [] hlt, List.map_append]; rfl)
      have hol : Hid (((ls.take k).map (F.ev (point i))).length ≤ 1000000) := Lib.hid (by rw [List.length_map, List.length_take]; omega)
      have e0 := pw_cell_below hB d0
      generalize (ls.take k).map (F.ev (point i)) = out at *
      generalize ls.getD k [] = r at *
      generalize hx : point i = x at *
      replace hx := Lib.hid hx
      replace hu2 := hu2.below hB
      go_wp2_with fail
      go_region_held3 (fun w' => w'.cell? (ad.add k) = some u2)
        (go_keep)
        (first
        | (go_at_call 59; refine (rPoint_c i _).mono ?_; rintro e w6 ⟨rfl, rfl⟩; rw [hx.out])
        | (go_at_call 76; refine (rEval_c u2 r x _ (by first | exact hu2 | exact hu2.drew | exact hu2.drewN _)).mono ?_; rintro e w6 ⟨rfl, rfl⟩)
        | (refine step_app_y (w0 := w) (by rfl) (.tmp 13) (.tmp 21) (by rfl) _ _ (F.ev x r) _ (by rfl) (by rfl) (by rfl) (hO.below (pw_below_drewN (Below.refl _ _) _)) (pw_below_drewN hB _) (by have := hol.out; omega) ?_; intro v8 w8 hO8 hB8 hg8; replace e0 := pw_cell_below hB8 d0)
        | fail)
      go_wp2
      exact ⟨⟨k + 1, by omega, by go_num, by rw [HS.out]; exact hO8, hB8⟩, by simp [intOf]; try omega⟩
    · obtain rfl : k = ls.length := by omega
      rw [List.take_length] at hO
      go_wp2
      go_ret
      exact ⟨_, rfl, hO, hB⟩
theorem L_small (p : Pl) (h : p.Ok) : (secretsAt p).length < 255 := by
  rw [secretsAt, List.length_map, List.length_range]
  have := h.t; have := h.tl; have := h.wn; have := h.nl; have := h.l
  omega
theorem secrets_nodup10 (p : Pl) (h : p.Ok) : (secretsAt p).Nodup := (List.nodup_append.1 (points_unlike p h)).2.1
theorem sec_len10 (p : Pl) : (secretsAt p).length = p.L.toNat := by rw [secretsAt, List.length_map, List.length_range]
set_option maxRecDepth 100000 in
set_option maxHeartbeats 1600000 in
theorem rPoly10_c (p : Pl) (h : p.Ok) (v u : Value) (row t : List F) (w : World) (hv : Rb w v row) (hu : Rb w u t) (hr : row.length = p.L.toNat) (hne : t ≠ []) (ht : t.length ≤ 1000) :
   Calls Try.prog 190 #[planV p, v, u] w fun e w' => ∃ z, e = .returned z ∧ Ob w w' z (F.dpoly (secretsAt p) row t) ∧ Below w.heap.size w w' := by
  have hsl := L_small p h
  have hN := Lib.hid (F.nwt_thr (ys := row) (secrets_nodup10 p h) hsl)
  have hlm : (secretsAt p).length = row.length := by rw [sec_len10, hr]
  have hD : Hid (F.dpoly (secretsAt p) row t = F.padd (F.thr (secretsAt p) row (secretsAt p).length) (F.pmul (F.rt (secretsAt p)) t)) := Lib.hid rfl
  have htl : (F.thr (secretsAt p) row (secretsAt p).length).length ≤ 1000000 := by rw [F.thr_len]; omega
  have hrl : (F.rt (secretsAt p)).length ≤ 1000000 := by rw [F.rt_len]; omega
  have hpl : (F.pmul (F.rt (secretsAt p)) t).length ≤ 1000000 := by
    rw [F.pmul_len (F.rt_ne _) hne, F.rt_len]; omega
  have HP := Blk.new w (planC p) 33
  have hB := below_alloc (Below.refl w.heap.size w) (.cells (planC p) 33)
  replace hv := hv.below hB
  replace hu := hu.below hB
  have hs1 : (secretsAt p).length ≤ 100000 := by omega
  generalize hsec : secretsAt p = sec at *
  replace hsec := Lib.hid hsec
  go_enter Try.func190, Try.ntmps190
  go_wp2_with fail
  refine (rSecrets_c p h _).mono ?_
  rintro e w1 ⟨vS, rfl, sS, h1⟩
  rw [hsec.out] at sS
  replace sS := sS.rk
  replace hv := hv.below h1
  replace hu := hu.below h1
  replace hB := bt_ hB h1
  go_wp2_with fail
  refine (rThrough_c vS v sec row _ sS hv hlm hs1).mono ?_
  rintro e w2 ⟨v2, rfl, s2, h2⟩
  rw [hN.out] at s2
  replace s2 := s2.rk
  replace sS := sS.below h2
  replace hu := hu.below h2
  replace hB := bt_ hB h2
  go_wp2_with fail
  refine (rRoot_c vS sec _ sS hs1).mono ?_
  rintro e w3 ⟨v3, rfl, s3, h3⟩
  replace s3 := s3.rk
  replace s2 := s2.below h3
  replace hu := hu.below h3
  replace hB := bt_ hB h3
  go_wp2_with fail
  refine (rMul2_c v3 u _ t _ s3 hu hrl (by omega)).mono ?_
  rintro e w4 ⟨v4, rfl, s4, h4⟩
  replace s4 := s4.rk
  replace s2 := s2.below h4
  replace hB := bt_ hB h4
  go_wp2_with fail
  refine (rSum_c v2 v4 _ _ _ s2 s4 htl hpl).mono ?_
  rintro e w5 ⟨v5, rfl, s5, h5⟩
  replace s5 := s5.lower (w0 := w) hB
  replace hB := bt_ hB h5
  go_wp2
  go_ret
  exact ⟨_, rfl, by rw [hD.out]; exact s5, hB⟩
/-- The polynomials of a deal. -/
def polysOf (p : Pl) (b tape : List F) : List (List F) := (List.range (F.nS p.L.toNat b.length)).map fun j => F.dpoly (secretsAt p) (F.rowOf p.L.toNat b j) (F.tp p.T.toNat tape j)
set_option maxRecDepth 100000 in
set_option maxHeartbeats 1600000 in
theorem rPolys10_c (p : Pl) (h : p.Ok) (v tv : Value) (b tape : List F) (w : World) (hv : Rb w v b) (ht : Rb w tv tape) (hl : b.length ≤ 240) (hlen : p.T.toNat * F.nS p.L.toNat b.length ≤ tape.length) :
   Calls Try.prog 133 #[planV p, v, tv] w fun e w' => ∃ z, e = .returned z ∧ Obb w w' z (polysOf p b tape) ∧ Below w.heap.size w w' := by
  have hPO := Lib.hid (show polysOf p b tape = (List.range (F.nS p.L.toNat b.length)).map (fun j => F.dpoly (secretsAt p) (F.rowOf p.L.toNat b j) (F.tp p.T.toNat tape j)) from rfl)
  have hn9 : F.nS p.L.toNat b.length ≤ 240 := Nat.le_trans (F.nS_le_len _ b.length (by have := h.l; omega)) hl
  obtain ⟨n, hn⟩ : ∃ n, n = F.nS p.L.toNat b.length := ⟨_, rfl⟩
  obtain ⟨T, eT, hT1, hT2⟩ : ∃ T : Nat, p.T = (T : Int) ∧ 1 ≤ T ∧ T ≤ 256 := ⟨p.T.toNat, by have := h.t; omega, by have := h.t; omega, by have := h.t; have := h.tl; have := h.wn; have := h.nl; have := h.l; omega⟩
  have eT2 : p.T.toNat = T := by omega
  rw [← hn] at hn9 hlen hPO
  rw [eT2] at hlen hPO
  clear eT2
  have hcut := fun W hW => Lib.hid (rCut_c p h v b W hW hl)
  rw [← hn] at hcut
  replace hn := Lib.hid hn
  replace eT := Lib.hid eT
  have HP := Blk.new w (planC p) 33
  have hB := below_alloc (Below.refl w.heap.size w) (.cells (planC p) 33)
  replace hv := hv.below hB
  obtain ⟨At, ct, rfl, hct, hct2⟩ := ht
  have ht : Rb w (.slice At tape.length ct) tape := ⟨At, ct, rfl, hct, hct2⟩
  have hlt0 := kb_len hct2
  clear hct2
  go_enter Try.func133, Try.ntmps133
  go_wp2_with fail
  refine (hcut _ hv).out.mono ?_
  rintro e w1 ⟨z, rfl, hZ, h1⟩
  replace hZ := hZ.rk
  replace HP := HP.below h1
  replace hB := bt_ hB h1
  have ht1 := ht.below hB
  clear h1 hv hcut
  have hcl := Lib.hid (F.cutOf_len p.L.toNat b n)
  obtain ⟨Az, cz, rfl⟩ := rk_form hZ
  rw [hcl.out] at hZ ⊢
  have hat := fun k hk => Lib.hid (F.cutOf_at p.L.toNat b n k hk)
  generalize hcut2 : F.cutOf p.L.toNat b n = ls at *
  replace hcut2 := Lib.hid hcut2
  go_wp2_with fail
  go_loopw [8, 9] (fun s j wr => ∃ k : Nat, k ≤ n ∧ j = .int .i64 k ∧ Obb w1 wr s ((List.range k).map fun j => F.dpoly (secretsAt p) (F.rowOf p.L.toNat b j) (F.tp T tape j)) ∧ Below w1.heap.size w1 wr) (fun _ j _ => n - (intOf j).toNat)
  case atStart => exact ⟨0, by omega, rfl, Own.nil _ _ _ _, Below.refl _ _⟩
  case round =>
    obtain ⟨k, hk, rfl, hO, hD⟩ := hrel
    by_cases hlt : k < n
    · obtain ⟨adz, u2, rfl, d0, hu2⟩ := kbb_at (rk_C hZ) k (by rw [hcl.out]; exact hlt)
      rw [(hat k hlt).out] at hu2
      have hrl : (F.rowOf p.L.toNat b k).length = p.L.toNat := F.rowOf_len _ _ _
      have hlo : k * T + T ≤ tape.length := Nat.le_trans (by rw [← Nat.succ_mul, Nat.mul_comm]; exact Nat.mul_le_mul_left _ hlt) hlen
      have m1 : (k : Int) * p.T = ((k * T : Nat) : Int) := by rw [eT.out]; exact (Int.natCast_mul ..).symm
      have m2 : ((k : Int) + 1) * p.T = ((k * T : Nat) : Int) + (T : Int) := by rw [Int.add_mul, Int.one_mul, m1, eT.out]
      obtain ⟨ad, rfl, _⟩ := kb_at (rk_C ht) (k * T) (by omega)
      have hmid := rb_mid ht1 (k * T) T hlo (by omega)
      have hT2' : Hid ((tape.drop (k * T)).take T = F.tp T tape k) := Lib.hid rfl
      rw [hT2'.out] at hmid
      have htn : (F.tp T tape k).length = T := F.tp_len _ _ _ (by rw [Nat.succ_mul]; exact hlo)
      generalize hlo' : k * T = lo at *
      replace hlo' := Lib.hid hlo'
      have n1 : IntKind.i64.wrap (lo : Int) = lo := wrapI _ (by omega) (by omega)
      have n2 : IntKind.i64.wrap ((lo : Int) + T) = lo + T := wrapI _ (by omega) (by omega)
      have n3 : IntKind.i64.wrap ((k : Int) + 1) = k + 1 := wrapI _ (by omega) (by omega)
      have s1 : (0 : Int) ≤ (lo : Int) + T := by omega
      have s2 : (lo : Int) + T ≤ (ct : Int) := by omega
      have s5 : (0 : Int) ≤ (lo : Int) := by omega
      have s3 : ((lo : Int) + T).toNat = lo + T := by omega
      have s4 : ¬ ct = lo := by omega
      have HS := Lib.hid (range_snoc (fun j => F.dpoly (secretsAt p) (F.rowOf p.L.toNat b j) (F.tp T tape j)) k)
      have hlen2 : Hid (((List.range k).map (fun j => F.dpoly (secretsAt p) (F.rowOf p.L.toNat b j) (F.tp T tape j))).length + 1 ≤ 1000000000) := Lib.hid (by rw [List.length_map, List.length_range]; omega)
      have hne : Hid (F.tp T tape k ≠ []) := Lib.hid (fun e => by rw [e] at htn; simp at htn; omega)
      have htl : Hid ((F.tp T tape k).length ≤ 1000) := Lib.hid (by omega)
      clear htn
      generalize F.tp T tape k = tk at *
      generalize F.rowOf p.L.toNat b k = r at *
      replace hrl := Lib.hid hrl
      replace hT2' := Lib.hid True.intro
      generalize hG : ((List.range k).map fun j => F.dpoly (secretsAt p) (F.rowOf p.L.toNat b j) (F.tp T tape j)) = G at *
      replace hG := Lib.hid hG
      replace hu2 := hu2.below hD
      replace hmid := hmid.below hD
      have e0 := pw_cell_below hD d0
      obtain ⟨c0, c1, c2, c3, c4, c5⟩ := cells6 (HP.below hD)
      go_wp2_with fail
      go_region_held3 (fun w' => w'.cell? ⟨w.heap.size, 0, none⟩ = some (.int .i64 p.N) ∧ w'.cell? ⟨w.heap.size, 1, none⟩ = some (.int .i64 p.T) ∧ w'.cell? ⟨w.heap.size, 2, none⟩ = some (.int .i64 p.L) ∧ w'.cell? ⟨w.heap.size, 3, none⟩ = some (.int .i64 p.W) ∧ w'.cell? ⟨w.heap.size, 4, none⟩ = some (.int .i64 p.S) ∧ w'.cell? ⟨w.heap.size, 5, none⟩ = some (.int .i64 p.R) ∧ w'.cell? (adz.add k) = some u2)
        (go_keep)
        (first
        | (go_at_call 190; refine (rPoly10_c p h _ _ r tk _ (by first | exact hu2 | exact hu2.drew | exact hu2.drewN _) (by first | exact hmid | exact hmid.drew | exact hmid.drewN _) hrl.out hne.out htl.out).mono ?_; rintro e w6 ⟨vM, rfl, sM, h6⟩; obtain ⟨A6, c6, rfl⟩ := rk_form sM.rk; replace sM := sM.lower (w0 := w1) (by first | exact hD | exact below_drew hD | exact pw_below_drewN hD _); (repeat (first | replace h6 := ba h6 | replace h6 := buN h6 | replace h6 := bu h6)); replace hD := bt_ hD h6; replace hO := hO.below h6; clear c0 c1 c2 c3 c4 c5; obtain ⟨c0, c1, c2, c3, c4, c5⟩ := cells6 (HP.below hD); replace e0 := pw_cell_below hD d0)
        | (refine step_app_r (w0 := w1) (by rfl) (.tmp 19) (.tmp 37) (by rfl) _ _ _ _ (by rfl) (by rfl) hO sM hD hlen2.out ?_; intro v8 w8 hO8 hB8 hg8; clear c0 c1 c2 c3 c4 c5; obtain ⟨c0, c1, c2, c3, c4, c5⟩ := cells6 (HP.below hB8); replace e0 := pw_cell_below hB8 d0)
        | fail)
      go_wp2
      exact ⟨⟨k + 1, by omega, by go_num, by rw [HS.out]; exact hO8, hB8⟩, by simp [intOf]; try omega⟩
    · obtain rfl : k = n := by omega
      go_wp2
      go_ret
      exact ⟨_, rfl, by rw [hPO.out]; exact hO.lower hB, bt_ hB hD⟩
end Go.Proofs.Ytijeabhfddaoaaa
