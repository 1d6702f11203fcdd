/- Several texts of this seat, one behind the other. -/
import Derived.Test.YtijeabhfddaoaaaR10x
import Derived.Test.YtijeabhfddaoaaaL14e
import Derived.Test.YtijeabhfddaoaaaBk
import Derived.Test.YtijeabhfddaoaaaRz
/- Plain laws of MaskHides: with the masks added to the tape the other blob's shares are the same. -/
namespace Go.Proofs.Ytijeabhfddaoaaa
set_option linter.unusedVariables false
open Go.RowKit Go.Proofs.YtijeabhfddaoaaaW.PrintWords Go.Proofs.Sh

theorem deal_ev {p : Pl} (h : p.Ok) (hK : p.T + p.L < 255) {d : List F} {zs : List Int} (hz : maE p d.length zs = 0) (x : F) :
    F.ev x (dealM p d (shOf p d zs)) * F.ev x (F.rt (secretsAt p)) = F.ev x (shOf p d zs) + dot (F.wts (secretsAt p) x) d := by
  have a := ma_zero hz
  have hsl := sec_len10 p
  have hL := h.l
  have hT := h.t
  have hdl : d.length = (secretsAt p).length := by omega
  have hd : szd d (secretsAt p).length = d := szd_same d _ hdl
  have hsh := sh_len' h hz
  have ht : (F.thr (secretsAt p) d (secretsAt p).length).length = (secretsAt p).length := F.thr_len _ _ _
  have e1 : dealM p d (shOf p d zs) = qts (secretsAt p) (F.padd (shOf p d zs) (F.thr (secretsAt p) d (secretsAt p).length)) := by
    unfold dealM
    rw [hd]
    refine szd_same _ _ ?_
    rw [qts_len, F.padd_len, ht]
    omega
  rw [e1, qts_exact _ _ (secrets_nodup10 p h) (fun y hy => ?_), F.ev_padd, F.dot_wts _ _ _ (L_small p h)]
  obtain ⟨j, hj, rfl⟩ := List.getElem_of_mem hy
  have e : (secretsAt p)[j] = (secretsAt p).getD j 0 := by simp [List.getD_eq_getElem?_getD, hj]
  rw [e, F.ev_padd, sh_secret p h hK d zs a.2.1 a.2.2.1 a.2.2.2 j hj, F.thr_at d (secrets_nodup10 p h) j hj (L_small p h), F.add_self]
theorem dealM_len (p : Pl) (d s : List F) : (dealM p d s).length = p.T.toNat := szd_len _ _
/-- The difference of two blobs' k-th stripes. -/
def dlt (p : Pl) (a b : List F) (k : Nat) : List F := F.xorL (F.rowOf p.L.toNat a k) (F.rowOf p.L.toNat b k)
theorem dlt_len (p : Pl) (a b : List F) (k : Nat) : (dlt p a b k).length = p.L.toNat := by unfold dlt; rw [F.xorL_len, F.rowOf_len]
/-- Its mask. -/
def msk (p : Pl) (a b : List F) (zs : List Int) (k : Nat) : List F := dealM p (dlt p a b k) (shOf p (dlt p a b k) zs)
/-- A tape with the masks of the first k stripes. -/
def hidT (p : Pl) (a b : List F) (zs : List Int) (t : List F) : Nat → List F
  | 0 => t
  | k + 1 => apM (hidT p a b zs t k) ((k * p.T.toNat : Nat) : Int) (msk p a b zs k)
theorem hidT_len (p : Pl) (a b : List F) (zs : List Int) (t : List F) : ∀ k, (hidT p a b zs t k).length = t.length
  | 0 => rfl
  | k + 1 => by
    show (apM _ _ _).length = _
    rw [apM_len, hidT_len p a b zs t k]
def mm (p : Pl) (a b : List F) (zs : List Int) (i : Nat) : Nat → F
  | 0 => 0
  | k + 1 => mm p a b zs i k + (if k * p.T.toNat ≤ i then (msk p a b zs k).getD (i - k * p.T.toNat) 0 else 0)
theorem hidT_at (p : Pl) (a b : List F) (zs : List Int) (t : List F) (i : Nat) (hi : i < t.length) : ∀ k, (hidT p a b zs t k).getD i 0 = t.getD i 0 + mm p a b zs i k
  | 0 => (F.add_zero _).symm
  | k + 1 => by
    show (apM (hidT p a b zs t k) ((k * p.T.toNat : Nat) : Int) (msk p a b zs k)).getD i 0 = _
    rw [apM_at _ _ _ _ (by rw [hidT_len]; exact hi), hidT_at p a b zs t i hi k, F.add_assoc]
    congr 2
    show (if 0 ≤ ((k * p.T.toNat : Nat) : Int) ∧ ((k * p.T.toNat : Nat) : Int) ≤ (i : Int) then _ else _) = _
    by_cases e : k * p.T.toNat ≤ i
    · rw [if_pos ⟨by omega, by omega⟩, if_pos e, Int.toNat_natCast]
    · rw [if_neg (fun h => e (by omega)), if_neg e]
/-- The same masks lead back. -/
theorem hidT_back (p : Pl) (a b : List F) (zs : List Int) (t : List F) (k : Nat) : hidT p a b zs (hidT p a b zs t k) k = t := by
  apply F.ext_at (by rw [hidT_len, hidT_len])
  intro i hi
  rw [hidT_len, hidT_len] at hi
  show (hidT p a b zs (hidT p a b zs t k) k).getD i 0 = t.getD i 0
  rw [hidT_at _ _ _ _ _ _ (by rw [hidT_len]; exact hi), hidT_at _ _ _ _ _ _ hi, F.add_assoc, F.add_self, F.add_zero]
theorem mm_late (p : Pl) (a b : List F) (zs : List Int) (j q : Nat) (hq : q < p.T.toNat) : ∀ k, mm p a b zs (j * p.T.toNat + q) k = if j < k then (msk p a b zs j).getD q 0 else 0
  | 0 => by rw [if_neg (Nat.not_lt_zero j)]; rfl
  | k + 1 => by
    show mm p a b zs (j * p.T.toNat + q) k + (if k * p.T.toNat ≤ j * p.T.toNat + q then (msk p a b zs k).getD (j * p.T.toNat + q - k * p.T.toNat) 0 else 0) = _
    rw [mm_late p a b zs j q hq k]
    by_cases e1 : j = k
    · subst e1
      rw [if_neg (Nat.lt_irrefl j), if_pos (Nat.le_add_right _ _), if_pos (Nat.lt_succ_self j), F.zero_add, Nat.add_sub_cancel_left]
    · by_cases e2 : j < k
      · have h3 : (j + 1) * p.T.toNat ≤ k * p.T.toNat := Nat.mul_le_mul_right _ e2
        have h4 : (j + 1) * p.T.toNat = j * p.T.toNat + p.T.toNat := by rw [Nat.add_mul, Nat.one_mul]
        rw [if_pos e2, if_neg (by omega), if_pos (by omega), F.add_zero]
      · have h3 : (k + 1) * p.T.toNat ≤ j * p.T.toNat := Nat.mul_le_mul_right _ (by omega)
        have h4 : (k + 1) * p.T.toNat = k * p.T.toNat + p.T.toNat := by rw [Nat.add_mul, Nat.one_mul]
        have hml : (msk p a b zs k).length = p.T.toNat := dealM_len _ _ _
        rw [if_neg e2, if_pos (by omega), if_neg (by omega), F.getD_out _ _ (by rw [hml]; omega), F.add_zero]
theorem tp_hid (p : Pl) (a b : List F) (zs : List Int) (t : List F) (k j : Nat) (hj : j < k) (hl : (j + 1) * p.T.toNat ≤ t.length) : F.tp p.T.toNat (hidT p a b zs t k) j = F.padd (F.tp p.T.toNat t j) (msk p a b zs j) := by
  have h4 : (j + 1) * p.T.toNat = j * p.T.toNat + p.T.toNat := by rw [Nat.add_mul, Nat.one_mul]
  have hml : (msk p a b zs j).length = p.T.toNat := dealM_len _ _ _
  apply F.ext_at
  · rw [F.padd_len, F.tp_len _ _ _ (by rw [hidT_len]; exact hl), F.tp_len _ _ _ hl, hml, Nat.max_self]
  · intro q hq
    rw [F.tp_len _ _ _ (by rw [hidT_len]; exact hl)] at hq
    rw [F.padd_at]
    show (F.tp p.T.toNat (hidT p a b zs t k) j).getD q 0 = (F.tp p.T.toNat t j).getD q 0 + (msk p a b zs j).getD q 0
    rw [F.tp_at _ _ _ _ hq, F.tp_at _ _ _ _ hq, hidT_at _ _ _ _ _ _ (by omega), mm_late p a b zs j q hq k, if_pos hj]
theorem dlt_padd (p : Pl) (a b : List F) (k : Nat) : dlt p a b k = F.padd (F.rowOf p.L.toNat a k) (F.rowOf p.L.toNat b k) := by
  apply F.ext_at
  · rw [dlt_len, F.padd_len, F.rowOf_len, F.rowOf_len, Nat.max_self]
  · intro q hq
    rw [dlt_len] at hq
    rw [F.padd_at]
    exact F.xorL_at _ _ _ (by rw [F.rowOf_len]; exact hq)
/-- ANY TWO BLOBS: with the masks the other blob's shares of these custodians are the very same. -/
theorem hides (p : Pl) (h : p.Ok) (hK : p.T + p.L < 255) (a b t : List F) (hab : a.length = b.length) (zs : List Int) (hz : maE p p.L.toNat zs = 0) (hlen : p.T.toNat * F.nS p.L.toNat a.length ≤ t.length) (i : Int) (hi : i ∈ zs) :
    shs p a t (i - 1).toNat = shs p b (hidT p a b zs t (F.nS p.L.toNat a.length)) (i - 1).toNat := by
  have hz0 := ma_zero hz
  have hi1 := hz0.2.2.2 i hi
  rw [shs_at p _ _ i hi1.1, shs_at p _ _ i hi1.1]
  apply F.ext_at
  · rw [F.dshare_len, F.dshare_len, polys_len, polys_len, hab]
  · intro j hj
    rw [F.dshare_len, polys_len] at hj
    have hjb : j < F.nS p.L.toNat b.length := by rw [← hab]; exact hj
    have hmz : maE p (dlt p a b j).length zs = 0 := by rw [dlt_len]; exact hz
    have hl : (j + 1) * p.T.toNat ≤ t.length := Nat.le_trans (by rw [Nat.mul_comm]; exact Nat.mul_le_mul_left _ hj) hlen
    show (F.dshare (polysOf p a t) (point i)).getD j 0 = (F.dshare (polysOf p b (hidT p a b zs t (F.nS p.L.toNat a.length))) (point i)).getD j 0
    rw [F.dshare_at _ _ _ (by rw [polys_len]; exact hj), F.dshare_at _ _ _ (by rw [polys_len]; exact hjb), polys_at _ _ _ _ hj, polys_at _ _ _ _ hjb, F.ev_dpoly _ _ _ _ (L_small p h), F.ev_dpoly _ _ _ _ (L_small p h),
      tp_hid p a b zs t _ j hj hl, F.ev_padd, F.mul_add]
    have e1 := deal_ev h hK hmz (point i)
    rw [F.mul_comm] at e1
    show _ = _ + (_ + F.ev (point i) (F.rt (secretsAt p)) * F.ev (point i) (dealM p (dlt p a b j) (shOf p (dlt p a b j) zs)))
    have hsz : F.ev (point i) (shOf p (dlt p a b j) zs) = 0 := sh_zero p h hK (dlt p a b j) zs (by rw [dlt_len]; have := h.l; omega) hz0.2.1 hz0.2.2.1 hz0.2.2.2 i hi
    rw [e1, hsz, F.zero_add, dlt_padd, F.dot_padd]
    generalize dot (F.wts (secretsAt p) (point i)) (F.rowOf p.L.toNat a j) = A
    generalize dot (F.wts (secretsAt p) (point i)) (F.rowOf p.L.toNat b j) = B
    generalize F.ev (point i) (F.rt (secretsAt p)) * F.ev (point i) (F.tp p.T.toNat t j) = C
    calc A + C = (B + B) + (A + C) := by rw [F.add_self, F.zero_add]
      _ = B + (C + (A + B)) := by ac_rfl
end Go.Proofs.Ytijeabhfddaoaaa

/- The walk of the law MaskHides. -/
namespace Go.Proofs.Ytijeabhfddaoaaa
set_option linter.unusedVariables false
open Go.RowKit Go.Proofs.YtijeabhfddaoaaaW.PrintWords Go.Proofs.Sh

theorem made_rb (W : World) (m : Nat) (hm : m ≤ 9223372036854775807) : Rb (W.alloc (.cells (madeCells #[.int .u8 0] m) 5)) (.slice (some ⟨W.heap.size, 0, none⟩) m m) (List.replicate m 0) := by
  have h := own_made_of (enc := bV) (d := (0 : F)) W W.heap.size 5 m (Nat.le_refl _) hm
  have h2 : Ob W (W.alloc (.cells (madeCells #[.int .u8 0] m) 5)) (.slice (some ⟨W.heap.size, 0, none⟩) m m) (List.replicate m 0) := b_own (by rw [List.length_replicate]; exact h)
  exact h2.rk
theorem cost_nat14 {p : Pl} (h : p.Ok) {s n : Nat} (hn : p.T.toNat * s = n) : p.T * (s : Int) = (n : Int) := by
  have e0 : (p.T.toNat : Int) = p.T := by have := h.t; omega
  rw [← hn, Int.natCast_mul, e0]
set_option maxRecDepth 100000 in
set_option maxHeartbeats 6400000 in
theorem maskHides_0 (p : Pl) (va vb vt vw : Value) (a b t : List F) (zs : List Int) (w : World) (ha : Rb w va a) (hb : Rb w vb b) (ht : Rb w vt t) (hw : Ri w vw zs) (h : ¬ Lite p) : Calls Try.prog 33 #[planV p, .agg #[va, vb, vt], vw] w fun e w' => e = .returned (.bool true) ∧ Below w.heap.size w w' := by
  have hL := Lib.hid (decide_eq_false h)
  clear h
  obtain ⟨Aa, ca, rfl⟩ := rk_form ha
  obtain ⟨Ab, cb, rfl⟩ := rk_form hb
  obtain ⟨At, ct, rfl⟩ := rk_form ht
  obtain ⟨Aw, cw, rfl⟩ := rk_form hw
  have HP := (Blk.new w (planC p) 33).alloc (.cells #[.slice Aa a.length ca, .slice Ab b.length cb, .slice At t.length ct] 116)
  have HQ := Blk.new' (w.alloc (.cells (planC p) 33)) #[.slice Aa a.length ca, .slice Ab b.length cb, .slice At t.length ct] 116 (World.size_alloc _ _)
  have hB9 := below_alloc (below_alloc (Below.refl w.heap.size w) (.cells (planC p) 33)) (.cells #[.slice Aa a.length ca, .slice Ab b.length cb, .slice At t.length ct] 116)
  replace ha := ha.below hB9
  replace hb := hb.below hB9
  replace ht := ht.below hB9
  replace hw := hw.below hB9
  go_enter Try.func33, Try.ntmps33
  go_wp2_with fail
  generalize (w.alloc (.cells (planC p) 33)).alloc (.cells #[.slice Aa a.length ca, .slice Ab b.length cb, .slice At t.length ct] 116) = w1 at *
  have q0 := HQ.cell 0 _ rfl
  have q1 := HQ.cell 1 _ rfl
  have q2 := HQ.cell 2 _ rfl
  go_quiet (fail)
  replace HP := HP.below (pw_below_drewN (Below.refl _ _) nq)
  replace ha := ha.drewN nq
  replace hb := hb.drewN nq
  replace ht := ht.drewN nq
  replace hw := hw.drewN nq
  replace hB9 := pw_below_drewN hB9 nq
  clear q0 q1 q2 HQ
  generalize w1.drewN nq = w2 at *
  go_wp2_with fail
  refine wp_region_tell [.v (planV p),.v (.bool false),.v (.bool true),.v (.bool true),.v (undef),.v (undef),.v (undef),.v (.bool true),.v (.bool true),.v (undef),.v (undef),.v (undef),.v (.bool true),.v (.bool true),.v (undef),.v (undef),.v (undef),.v (undef),.v (undef),.v (.bool true),.v (.bool true),.v (undef),.v (undef),.v (undef),.v (undef),.v (undef),.v (undef),.v (undef),.v (.bool true),.v (.bool true),.v (undef),.v (undef),.v (undef),.v (undef),.v (undef),.v (undef),.v (undef),.v (.bool true)] [([],none),([(0,some 36)],none),([(1,some 37)],none),([(2,some 38)],none),([(3,some 39)],some (some 39,false)),([(3,some 39),(4,some 40)],some (some 39,false)),([(3,some 39),(5,some 41)],some (some 39,false)),([(3,some 39),(6,some 42)],none),([(7,some 43)],none),([(8,some 44)],some (some 44,false)),([(8,some 44),(9,some 45)],some (some 44,false)),([(8,some 44),(10,some 46)],some (some 44,false)),([(8,some 44),(11,some 47)],none),([(12,some 48)],none),([(13,some 49)],some (some 49,false)),([(13,some 49),(14,some 50)],some (some 49,false)),([(13,some 49)],some (some 49,false)),([(13,some 49),(16,some 52)],some (some 49,false)),([(13,some 49),(15,some 51),(17,some 53)],some (some 49,false)),([(13,some 49),(18,some 54)],none),([(19,some 55)],none),([(20,some 56)],some (some 56,false)),([(20,some 56),(21,some 57)],some (some 56,false)),([(20,some 56)],some (some 56,false)),([(20,some 56)],some (some 56,false)),([(20,some 56),(24,some 60)],some (some 56,false)),([(20,some 56),(23,some 59),(25,some 61)],some (some 56,false)),([(20,some 56),(22,some 58),(26,some 62)],some (some 56,false)),([(20,some 56),(27,some 63)],none),([(28,some 64)],none),([(29,some 65)],some (some 65,false)),([(29,some 65)],some (some 65,false)),([(29,some 65),(31,some 67)],some (some 65,false)),([(29,some 65),(32,some 68)],some (some 65,false)),([(29,some 65)],some (some 65,false)),([(29,some 65),(30,some 66),(33,some 69),(34,some 70)],some (some 65,false)),([(29,some 65),(35,some 71)],some (some 65,false)),([(29,some 65),(36,some 72)],none)] [(0,some 36),(1,some 37),(2,some 38),(3,some 39),(4,some 40),(5,some 41),(6,some 42),(7,some 43),(8,some 44),(9,some 45),(10,some 46),(11,some 47),(12,some 48),(13,some 49),(14,some 50),(15,some 51),(16,some 52),(17,some 53),(18,some 54),(19,some 55),(20,some 56),(21,some 57),(22,some 58),(23,some 59),(24,some 60),(25,some 61),(26,some 62),(27,some 63),(28,some 64),(29,some 65),(30,some 66),(31,some 67),(32,some 68),(33,some 69),(34,some 70),(35,some 71),(36,some 72),(37,some 73)] (by kernel_rfl) (by kernel_rfl) (by kernel_rfl) (by kernel_rfl) (by exact ⟨trivial,trivial,trivial,trivial,trivial,trivial,trivial,trivial,trivial,trivial,trivial,trivial,trivial,trivial,trivial,trivial,trivial,trivial,trivial,trivial,trivial,trivial,trivial,trivial,trivial,trivial,trivial,trivial,trivial,trivial,trivial,trivial,trivial,trivial,trivial,trivial,trivial,trivial,trivial⟩) ⟨?s0,?s1,?s2,?s3,?s4,?s5,?s6,?s7,?s8,?s9,?s10,?s11,?s12,?s13,?s14,?s15,?s16,?s17,?s18,?s19,?s20,?s21,?s22,?s23,?s24,?s25,?s26,?s27,?s28,?s29,?s30,?s31,?s32,?s33,?s34,?s35,?s36,?s37,trivial⟩ ?hQ
  case s0 | s2 | s3 | s7 | s8 | s12 | s13 | s19 | s20 | s28 | s29 | s37 =>
    intro W hB K hK
    simp only [tellK, Act.put, List.setIfInBounds_toArray, List.set_cons_zero, List.set_cons_succ] at hK ⊢
    refine tell_do rfl ?_
    obtain ⟨c0, c1, c2, c3, c4, c5⟩ := cells6 (HP.below hB)
    go_simp
    exact hK _ (Below.refl _ _)
  case s1 =>
    intro W hB K hK
    simp only [tellK, Act.put, List.setIfInBounds_toArray, List.set_cons_zero, List.set_cons_succ] at hK ⊢
    refine tell_do rfl ?_
    obtain ⟨c0, c1, c2, c3, c4, c5⟩ := cells6 (HP.below hB)
    go_simp
    go_at_call 93; refine (light_c p _).mono ?_; rintro e w6 ⟨rfl, h6⟩; rw [hL.out]; exact hK _ h6
  case s4 | s5 | s6 | s9 | s10 | s11 | s14 | s15 | s16 | s17 | s18 | s21 | s22 | s23 | s24 | s25 | s26 | s27 | s30 | s31 | s32 | s33 | s34 | s35 | s36 =>
    intro W hB K hK
    simp only [tellK, Act.put, List.setIfInBounds_toArray, List.set_cons_zero, List.set_cons_succ] at hK ⊢
    refine tell_not rfl ?_
    exact hK _ (Below.refl _ _)
  case hQ =>
    intro W hB
    simp only [tellGo, sayAt, List.getD_cons_zero, List.getD_cons_succ, Act.put, List.setIfInBounds_toArray, List.set_cons_zero, List.set_cons_succ]
    replace hB := bt_ hB9 hB
    go_wp2_with fail
    refine (alive14 _).mono ?_
    rintro e w9 ⟨rfl, h⟩
    have hB := bt_ hB h
    clear h
    go_wp2
    go_ret
    exact ⟨rfl, hB⟩
set_option maxRecDepth 100000 in
set_option maxHeartbeats 6400000 in
theorem maskHides_1 (p : Pl) (va vb vt vw : Value) (a b t : List F) (zs : List Int) (w : World) (ha : Rb w va a) (hb : Rb w vb b) (ht : Rb w vt t) (hw : Ri w vw zs) (hi : p.In) (hL0 : Lite p) (h : ¬ p.Ok) : Calls Try.prog 33 #[planV p, .agg #[va, vb, vt], vw] w fun e w' => e = .returned (.bool true) ∧ Below w.heap.size w w' := by
  have hL := Lib.hid (decide_eq_true hL0)
  obtain ⟨Aa, ca, rfl⟩ := rk_form ha
  obtain ⟨Ab, cb, rfl⟩ := rk_form hb
  obtain ⟨At, ct, rfl⟩ := rk_form ht
  obtain ⟨Aw, cw, rfl⟩ := rk_form hw
  have HP := (Blk.new w (planC p) 33).alloc (.cells #[.slice Aa a.length ca, .slice Ab b.length cb, .slice At t.length ct] 116)
  have HQ := Blk.new' (w.alloc (.cells (planC p) 33)) #[.slice Aa a.length ca, .slice Ab b.length cb, .slice At t.length ct] 116 (World.size_alloc _ _)
  have hB9 := below_alloc (below_alloc (Below.refl w.heap.size w) (.cells (planC p) 33)) (.cells #[.slice Aa a.length ca, .slice Ab b.length cb, .slice At t.length ct] 116)
  replace ha := ha.below hB9
  replace hb := hb.below hB9
  replace ht := ht.below hB9
  replace hw := hw.below hB9
  go_enter Try.func33, Try.ntmps33
  go_wp2_with fail
  generalize (w.alloc (.cells (planC p) 33)).alloc (.cells #[.slice Aa a.length ca, .slice Ab b.length cb, .slice At t.length ct] 116) = w1 at *
  have q0 := HQ.cell 0 _ rfl
  have q1 := HQ.cell 1 _ rfl
  have q2 := HQ.cell 2 _ rfl
  go_quiet (fail)
  replace HP := HP.below (pw_below_drewN (Below.refl _ _) nq)
  replace ha := ha.drewN nq
  replace hb := hb.drewN nq
  replace ht := ht.drewN nq
  replace hw := hw.drewN nq
  replace hB9 := pw_below_drewN hB9 nq
  clear q0 q1 q2 HQ
  generalize w1.drewN nq = w2 at *
  go_wp2_with fail
  refine wp_region_tell [.v (planV p),.v (.bool true),.v (.bool false),.v (.bool false),.v (planV p),.v (.bool false),.v (.bool true),.v (.bool true),.v (.bool true),.v (undef),.v (undef),.v (undef),.v (.bool true),.v (.bool true),.v (undef),.v (undef),.v (undef),.v (undef),.v (undef),.v (.bool true),.v (.bool true),.v (undef),.v (undef),.v (undef),.v (undef),.v (undef),.v (undef),.v (undef),.v (.bool true),.v (.bool true),.v (undef),.v (undef),.v (undef),.v (undef),.v (undef),.v (undef),.v (undef),.v (.bool true)] [([],none),([(0,some 36)],none),([(1,some 37)],none),([(2,some 38)],none),([(3,some 39)],some (some 39,false)),([(3,some 39),(4,some 40)],some (some 39,false)),([(3,some 39),(5,some 41)],some (some 39,false)),([(3,some 39),(6,some 42)],none),([(7,some 43)],none),([(8,some 44)],some (some 44,false)),([(8,some 44),(9,some 45)],some (some 44,false)),([(8,some 44),(10,some 46)],some (some 44,false)),([(8,some 44),(11,some 47)],none),([(12,some 48)],none),([(13,some 49)],some (some 49,false)),([(13,some 49),(14,some 50)],some (some 49,false)),([(13,some 49)],some (some 49,false)),([(13,some 49),(16,some 52)],some (some 49,false)),([(13,some 49),(15,some 51),(17,some 53)],some (some 49,false)),([(13,some 49),(18,some 54)],none),([(19,some 55)],none),([(20,some 56)],some (some 56,false)),([(20,some 56),(21,some 57)],some (some 56,false)),([(20,some 56)],some (some 56,false)),([(20,some 56)],some (some 56,false)),([(20,some 56),(24,some 60)],some (some 56,false)),([(20,some 56),(23,some 59),(25,some 61)],some (some 56,false)),([(20,some 56),(22,some 58),(26,some 62)],some (some 56,false)),([(20,some 56),(27,some 63)],none),([(28,some 64)],none),([(29,some 65)],some (some 65,false)),([(29,some 65)],some (some 65,false)),([(29,some 65),(31,some 67)],some (some 65,false)),([(29,some 65),(32,some 68)],some (some 65,false)),([(29,some 65)],some (some 65,false)),([(29,some 65),(30,some 66),(33,some 69),(34,some 70)],some (some 65,false)),([(29,some 65),(35,some 71)],some (some 65,false)),([(29,some 65),(36,some 72)],none)] [(0,some 36),(1,some 37),(2,some 38),(3,some 39),(4,some 40),(5,some 41),(6,some 42),(7,some 43),(8,some 44),(9,some 45),(10,some 46),(11,some 47),(12,some 48),(13,some 49),(14,some 50),(15,some 51),(16,some 52),(17,some 53),(18,some 54),(19,some 55),(20,some 56),(21,some 57),(22,some 58),(23,some 59),(24,some 60),(25,some 61),(26,some 62),(27,some 63),(28,some 64),(29,some 65),(30,some 66),(31,some 67),(32,some 68),(33,some 69),(34,some 70),(35,some 71),(36,some 72),(37,some 73)] (by kernel_rfl) (by kernel_rfl) (by kernel_rfl) (by kernel_rfl) (by exact ⟨trivial,trivial,trivial,trivial,trivial,trivial,trivial,trivial,trivial,trivial,trivial,trivial,trivial,trivial,trivial,trivial,trivial,trivial,trivial,trivial,trivial,trivial,trivial,trivial,trivial,trivial,trivial,trivial,trivial,trivial,trivial,trivial,trivial,trivial,trivial,trivial,trivial,trivial,trivial⟩) ⟨?s0,?s1,?s2,?s3,?s4,?s5,?s6,?s7,?s8,?s9,?s10,?s11,?s12,?s13,?s14,?s15,?s16,?s17,?s18,?s19,?s20,?s21,?s22,?s23,?s24,?s25,?s26,?s27,?s28,?s29,?s30,?s31,?s32,?s33,?s34,?s35,?s36,?s37,trivial⟩ ?hQ
  case s0 | s2 | s3 | s4 | s6 | s7 | s8 | s12 | s13 | s19 | s20 | s28 | s29 | s37 =>
    intro W hB K hK
    simp only [tellK, Act.put, List.setIfInBounds_toArray, List.set_cons_zero, List.set_cons_succ] at hK ⊢
    refine tell_do rfl ?_
    obtain ⟨c0, c1, c2, c3, c4, c5⟩ := cells6 (HP.below hB)
    go_simp
    exact hK _ (Below.refl _ _)
  case s1 =>
    intro W hB K hK
    simp only [tellK, Act.put, List.setIfInBounds_toArray, List.set_cons_zero, List.set_cons_succ] at hK ⊢
    refine tell_do rfl ?_
    obtain ⟨c0, c1, c2, c3, c4, c5⟩ := cells6 (HP.below hB)
    go_simp
    go_at_call 93; refine (light_c p _).mono ?_; rintro e w6 ⟨rfl, h6⟩; rw [hL.out]; exact hK _ h6
  case s5 =>
    intro W hB K hK
    simp only [tellK, Act.put, List.setIfInBounds_toArray, List.set_cons_zero, List.set_cons_succ] at hK ⊢
    refine tell_do rfl ?_
    obtain ⟨c0, c1, c2, c3, c4, c5⟩ := cells6 (HP.below hB)
    go_simp
    go_at_call 48; refine (rRight_no p hi h _).mono ?_; rintro e w6 ⟨rfl, h6⟩; exact hK _ h6
  case s9 | s10 | s11 | s14 | s15 | s16 | s17 | s18 | s21 | s22 | s23 | s24 | s25 | s26 | s27 | s30 | s31 | s32 | s33 | s34 | s35 | s36 =>
    intro W hB K hK
    simp only [tellK, Act.put, List.setIfInBounds_toArray, List.set_cons_zero, List.set_cons_succ] at hK ⊢
    refine tell_not rfl ?_
    exact hK _ (Below.refl _ _)
  case hQ =>
    intro W hB
    simp only [tellGo, sayAt, List.getD_cons_zero, List.getD_cons_succ, Act.put, List.setIfInBounds_toArray, List.set_cons_zero, List.set_cons_succ]
    replace hB := bt_ hB9 hB
    go_wp2_with fail
    refine (alive14 _).mono ?_
    rintro e w9 ⟨rfl, h⟩
    have hB := bt_ hB h
    clear h
    go_wp2
    go_ret
    exact ⟨rfl, hB⟩
set_option maxRecDepth 100000 in
set_option maxHeartbeats 6400000 in
theorem maskHides_2 (p : Pl) (va vb vt vw : Value) (a b t : List F) (zs : List Int) (w : World) (ha : Rb w va a) (hb : Rb w vb b) (ht : Rb w vt t) (hw : Ri w vw zs) (hL0 : Lite p) (h : p.Ok) (hx : ¬ a.length ≤ 60) : Calls Try.prog 33 #[planV p, .agg #[va, vb, vt], vw] w fun e w' => e = .returned (.bool true) ∧ Below w.heap.size w w' := by
  have hL := Lib.hid (decide_eq_true hL0)
  have t3 : (60 : Int) < (a.length : Int) := by omega
  clear hx
  obtain ⟨Aa, ca, rfl⟩ := rk_form ha
  obtain ⟨Ab, cb, rfl⟩ := rk_form hb
  obtain ⟨At, ct, rfl⟩ := rk_form ht
  obtain ⟨Aw, cw, rfl⟩ := rk_form hw
  have HP := (Blk.new w (planC p) 33).alloc (.cells #[.slice Aa a.length ca, .slice Ab b.length cb, .slice At t.length ct] 116)
  have HQ := Blk.new' (w.alloc (.cells (planC p) 33)) #[.slice Aa a.length ca, .slice Ab b.length cb, .slice At t.length ct] 116 (World.size_alloc _ _)
  have hB9 := below_alloc (below_alloc (Below.refl w.heap.size w) (.cells (planC p) 33)) (.cells #[.slice Aa a.length ca, .slice Ab b.length cb, .slice At t.length ct] 116)
  replace ha := ha.below hB9
  replace hb := hb.below hB9
  replace ht := ht.below hB9
  replace hw := hw.below hB9
  go_enter Try.func33, Try.ntmps33
  go_wp2_with fail
  generalize (w.alloc (.cells (planC p) 33)).alloc (.cells #[.slice Aa a.length ca, .slice Ab b.length cb, .slice At t.length ct] 116) = w1 at *
  have q0 := HQ.cell 0 _ rfl
  have q1 := HQ.cell 1 _ rfl
  have q2 := HQ.cell 2 _ rfl
  go_quiet (fail)
  replace HP := HP.below (pw_below_drewN (Below.refl _ _) nq)
  replace ha := ha.drewN nq
  replace hb := hb.drewN nq
  replace ht := ht.drewN nq
  replace hw := hw.drewN nq
  replace hB9 := pw_below_drewN hB9 nq
  clear q0 q1 q2 HQ
  generalize w1.drewN nq = w2 at *
  go_wp2_with fail
  refine wp_region_tell [.v (planV p),.v (.bool true),.v (.bool false),.v (.bool false),.v (planV p),.v (.bool true),.v (.bool false),.v (.bool false),.v (.bool false),.v (.slice Aa a.length ca),.v (.int .i64 (a.length : Int)),.v (.bool true),.v (.bool true),.v (.bool true),.v (undef),.v (undef),.v (undef),.v (undef),.v (undef),.v (.bool true),.v (.bool true),.v (undef),.v (undef),.v (undef),.v (undef),.v (undef),.v (undef),.v (undef),.v (.bool true),.v (.bool true),.v (undef),.v (undef),.v (undef),.v (undef),.v (undef),.v (undef),.v (undef),.v (.bool true)] [([],none),([(0,some 36)],none),([(1,some 37)],none),([(2,some 38)],none),([(3,some 39)],some (some 39,false)),([(3,some 39),(4,some 40)],some (some 39,false)),([(3,some 39),(5,some 41)],some (some 39,false)),([(3,some 39),(6,some 42)],none),([(7,some 43)],none),([(8,some 44)],some (some 44,false)),([(8,some 44),(9,some 45)],some (some 44,false)),([(8,some 44),(10,some 46)],some (some 44,false)),([(8,some 44),(11,some 47)],none),([(12,some 48)],none),([(13,some 49)],some (some 49,false)),([(13,some 49),(14,some 50)],some (some 49,false)),([(13,some 49)],some (some 49,false)),([(13,some 49),(16,some 52)],some (some 49,false)),([(13,some 49),(15,some 51),(17,some 53)],some (some 49,false)),([(13,some 49),(18,some 54)],none),([(19,some 55)],none),([(20,some 56)],some (some 56,false)),([(20,some 56),(21,some 57)],some (some 56,false)),([(20,some 56)],some (some 56,false)),([(20,some 56)],some (some 56,false)),([(20,some 56),(24,some 60)],some (some 56,false)),([(20,some 56),(23,some 59),(25,some 61)],some (some 56,false)),([(20,some 56),(22,some 58),(26,some 62)],some (some 56,false)),([(20,some 56),(27,some 63)],none),([(28,some 64)],none),([(29,some 65)],some (some 65,false)),([(29,some 65)],some (some 65,false)),([(29,some 65),(31,some 67)],some (some 65,false)),([(29,some 65),(32,some 68)],some (some 65,false)),([(29,some 65)],some (some 65,false)),([(29,some 65),(30,some 66),(33,some 69),(34,some 70)],some (some 65,false)),([(29,some 65),(35,some 71)],some (some 65,false)),([(29,some 65),(36,some 72)],none)] [(0,some 36),(1,some 37),(2,some 38),(3,some 39),(4,some 40),(5,some 41),(6,some 42),(7,some 43),(8,some 44),(9,some 45),(10,some 46),(11,some 47),(12,some 48),(13,some 49),(14,some 50),(15,some 51),(16,some 52),(17,some 53),(18,some 54),(19,some 55),(20,some 56),(21,some 57),(22,some 58),(23,some 59),(24,some 60),(25,some 61),(26,some 62),(27,some 63),(28,some 64),(29,some 65),(30,some 66),(31,some 67),(32,some 68),(33,some 69),(34,some 70),(35,some 71),(36,some 72),(37,some 73)] (by kernel_rfl) (by kernel_rfl) (by kernel_rfl) (by kernel_rfl) (by exact ⟨trivial,trivial,trivial,trivial,trivial,trivial,trivial,trivial,trivial,trivial,trivial,trivial,trivial,trivial,trivial,trivial,trivial,trivial,trivial,trivial,trivial,trivial,trivial,trivial,trivial,trivial,trivial,trivial,trivial,trivial,trivial,trivial,trivial,trivial,trivial,trivial,trivial,trivial,trivial⟩) ⟨?s0,?s1,?s2,?s3,?s4,?s5,?s6,?s7,?s8,?s9,?s10,?s11,?s12,?s13,?s14,?s15,?s16,?s17,?s18,?s19,?s20,?s21,?s22,?s23,?s24,?s25,?s26,?s27,?s28,?s29,?s30,?s31,?s32,?s33,?s34,?s35,?s36,?s37,trivial⟩ ?hQ
  case s0 | s2 | s3 | s4 | s6 | s7 | s8 | s9 | s10 | s11 | s12 | s13 | s19 | s20 | s28 | s29 | s37 =>
    intro W hB K hK
    simp only [tellK, Act.put, List.setIfInBounds_toArray, List.set_cons_zero, List.set_cons_succ] at hK ⊢
    refine tell_do rfl ?_
    obtain ⟨c0, c1, c2, c3, c4, c5⟩ := cells6 (HP.below hB)
    go_simp
    exact hK _ (Below.refl _ _)
  case s1 =>
    intro W hB K hK
    simp only [tellK, Act.put, List.setIfInBounds_toArray, List.set_cons_zero, List.set_cons_succ] at hK ⊢
    refine tell_do rfl ?_
    obtain ⟨c0, c1, c2, c3, c4, c5⟩ := cells6 (HP.below hB)
    go_simp
    go_at_call 93; refine (light_c p _).mono ?_; rintro e w6 ⟨rfl, h6⟩; rw [hL.out]; exact hK _ h6
  case s5 =>
    intro W hB K hK
    simp only [tellK, Act.put, List.setIfInBounds_toArray, List.set_cons_zero, List.set_cons_succ] at hK ⊢
    refine tell_do rfl ?_
    obtain ⟨c0, c1, c2, c3, c4, c5⟩ := cells6 (HP.below hB)
    go_simp
    go_at_call 48; refine (rRight_yes p h _).mono ?_; rintro e w6 ⟨rfl, h6⟩; exact hK _ h6
  case s14 | s15 | s16 | s17 | s18 | s21 | s22 | s23 | s24 | s25 | s26 | s27 | s30 | s31 | s32 | s33 | s34 | s35 | s36 =>
    intro W hB K hK
    simp only [tellK, Act.put, List.setIfInBounds_toArray, List.set_cons_zero, List.set_cons_succ] at hK ⊢
    refine tell_not rfl ?_
    exact hK _ (Below.refl _ _)
  case hQ =>
    intro W hB
    simp only [tellGo, sayAt, List.getD_cons_zero, List.getD_cons_succ, Act.put, List.setIfInBounds_toArray, List.set_cons_zero, List.set_cons_succ]
    replace hB := bt_ hB9 hB
    go_wp2_with fail
    refine (alive14 _).mono ?_
    rintro e w9 ⟨rfl, h⟩
    have hB := bt_ hB h
    clear h
    go_wp2
    go_ret
    exact ⟨rfl, hB⟩
set_option maxRecDepth 100000 in
set_option maxHeartbeats 6400000 in
theorem maskHides_3 (p : Pl) (va vb vt vw : Value) (a b t : List F) (zs : List Int) (w : World) (ha : Rb w va a) (hb : Rb w vb b) (ht : Rb w vt t) (hw : Ri w vw zs) (hL0 : Lite p) (h : p.Ok) (h60 : a.length ≤ 60) (hx : a.length ≠ b.length) : Calls Try.prog 33 #[planV p, .agg #[va, vb, vt], vw] w fun e w' => e = .returned (.bool true) ∧ Below w.heap.size w w' := by
  have hL := Lib.hid (decide_eq_true hL0)
  have t3 : decide ((60 : Int) < (a.length : Int)) = false := decide_eq_false (by omega)
  have hl : a.length ≤ 240 := by omega
  have tE : ((a.length : Int) != (b.length : Int)) = true := bne_iff_ne.2 (by omega)
  clear hx
  obtain ⟨Aa, ca, rfl⟩ := rk_form ha
  obtain ⟨Ab, cb, rfl⟩ := rk_form hb
  obtain ⟨At, ct, rfl⟩ := rk_form ht
  obtain ⟨Aw, cw, rfl⟩ := rk_form hw
  have HP := (Blk.new w (planC p) 33).alloc (.cells #[.slice Aa a.length ca, .slice Ab b.length cb, .slice At t.length ct] 116)
  have HQ := Blk.new' (w.alloc (.cells (planC p) 33)) #[.slice Aa a.length ca, .slice Ab b.length cb, .slice At t.length ct] 116 (World.size_alloc _ _)
  have hB9 := below_alloc (below_alloc (Below.refl w.heap.size w) (.cells (planC p) 33)) (.cells #[.slice Aa a.length ca, .slice Ab b.length cb, .slice At t.length ct] 116)
  replace ha := ha.below hB9
  replace hb := hb.below hB9
  replace ht := ht.below hB9
  replace hw := hw.below hB9
  go_enter Try.func33, Try.ntmps33
  go_wp2_with fail
  generalize (w.alloc (.cells (planC p) 33)).alloc (.cells #[.slice Aa a.length ca, .slice Ab b.length cb, .slice At t.length ct] 116) = w1 at *
  have q0 := HQ.cell 0 _ rfl
  have q1 := HQ.cell 1 _ rfl
  have q2 := HQ.cell 2 _ rfl
  go_quiet (fail)
  replace HP := HP.below (pw_below_drewN (Below.refl _ _) nq)
  replace ha := ha.drewN nq
  replace hb := hb.drewN nq
  replace ht := ht.drewN nq
  replace hw := hw.drewN nq
  replace hB9 := pw_below_drewN hB9 nq
  clear q0 q1 q2 HQ
  generalize w1.drewN nq = w2 at *
  go_wp2_with fail
  refine wp_region_tell [.v (planV p),.v (.bool true),.v (.bool false),.v (.bool false),.v (planV p),.v (.bool true),.v (.bool false),.v (.bool false),.v (.bool false),.v (.slice Aa a.length ca),.v (.int .i64 (a.length : Int)),.v (.bool false),.v (.bool false),.v (.bool false),.v (.slice Aa a.length ca),.v (.int .i64 (a.length : Int)),.v (.slice Ab b.length cb),.v (.int .i64 (b.length : Int)),.v (.bool true),.v (.bool true),.v (.bool true),.v (undef),.v (undef),.v (undef),.v (undef),.v (undef),.v (undef),.v (undef),.v (.bool true),.v (.bool true),.v (undef),.v (undef),.v (undef),.v (undef),.v (undef),.v (undef),.v (undef),.v (.bool true)] [([],none),([(0,some 36)],none),([(1,some 37)],none),([(2,some 38)],none),([(3,some 39)],some (some 39,false)),([(3,some 39),(4,some 40)],some (some 39,false)),([(3,some 39),(5,some 41)],some (some 39,false)),([(3,some 39),(6,some 42)],none),([(7,some 43)],none),([(8,some 44)],some (some 44,false)),([(8,some 44),(9,some 45)],some (some 44,false)),([(8,some 44),(10,some 46)],some (some 44,false)),([(8,some 44),(11,some 47)],none),([(12,some 48)],none),([(13,some 49)],some (some 49,false)),([(13,some 49),(14,some 50)],some (some 49,false)),([(13,some 49)],some (some 49,false)),([(13,some 49),(16,some 52)],some (some 49,false)),([(13,some 49),(15,some 51),(17,some 53)],some (some 49,false)),([(13,some 49),(18,some 54)],none),([(19,some 55)],none),([(20,some 56)],some (some 56,false)),([(20,some 56),(21,some 57)],some (some 56,false)),([(20,some 56)],some (some 56,false)),([(20,some 56)],some (some 56,false)),([(20,some 56),(24,some 60)],some (some 56,false)),([(20,some 56),(23,some 59),(25,some 61)],some (some 56,false)),([(20,some 56),(22,some 58),(26,some 62)],some (some 56,false)),([(20,some 56),(27,some 63)],none),([(28,some 64)],none),([(29,some 65)],some (some 65,false)),([(29,some 65)],some (some 65,false)),([(29,some 65),(31,some 67)],some (some 65,false)),([(29,some 65),(32,some 68)],some (some 65,false)),([(29,some 65)],some (some 65,false)),([(29,some 65),(30,some 66),(33,some 69),(34,some 70)],some (some 65,false)),([(29,some 65),(35,some 71)],some (some 65,false)),([(29,some 65),(36,some 72)],none)] [(0,some 36),(1,some 37),(2,some 38),(3,some 39),(4,some 40),(5,some 41),(6,some 42),(7,some 43),(8,some 44),(9,some 45),(10,some 46),(11,some 47),(12,some 48),(13,some 49),(14,some 50),(15,some 51),(16,some 52),(17,some 53),(18,some 54),(19,some 55),(20,some 56),(21,some 57),(22,some 58),(23,some 59),(24,some 60),(25,some 61),(26,some 62),(27,some 63),(28,some 64),(29,some 65),(30,some 66),(31,some 67),(32,some 68),(33,some 69),(34,some 70),(35,some 71),(36,some 72),(37,some 73)] (by kernel_rfl) (by kernel_rfl) (by kernel_rfl) (by kernel_rfl) (by exact ⟨trivial,trivial,trivial,trivial,trivial,trivial,trivial,trivial,trivial,trivial,trivial,trivial,trivial,trivial,trivial,trivial,trivial,trivial,trivial,trivial,trivial,trivial,trivial,trivial,trivial,trivial,trivial,trivial,trivial,trivial,trivial,trivial,trivial,trivial,trivial,trivial,trivial,trivial,trivial⟩) ⟨?s0,?s1,?s2,?s3,?s4,?s5,?s6,?s7,?s8,?s9,?s10,?s11,?s12,?s13,?s14,?s15,?s16,?s17,?s18,?s19,?s20,?s21,?s22,?s23,?s24,?s25,?s26,?s27,?s28,?s29,?s30,?s31,?s32,?s33,?s34,?s35,?s36,?s37,trivial⟩ ?hQ
  case s0 | s2 | s3 | s4 | s6 | s7 | s8 | s9 | s10 | s11 | s12 | s13 | s14 | s15 | s16 | s17 | s18 | s19 | s20 | s28 | s29 | s37 =>
    intro W hB K hK
    simp only [tellK, Act.put, List.setIfInBounds_toArray, List.set_cons_zero, List.set_cons_succ] at hK ⊢
    refine tell_do rfl ?_
    obtain ⟨c0, c1, c2, c3, c4, c5⟩ := cells6 (HP.below hB)
    go_simp
    exact hK _ (Below.refl _ _)
  case s1 =>
    intro W hB K hK
    simp only [tellK, Act.put, List.setIfInBounds_toArray, List.set_cons_zero, List.set_cons_succ] at hK ⊢
    refine tell_do rfl ?_
    obtain ⟨c0, c1, c2, c3, c4, c5⟩ := cells6 (HP.below hB)
    go_simp
    go_at_call 93; refine (light_c p _).mono ?_; rintro e w6 ⟨rfl, h6⟩; rw [hL.out]; exact hK _ h6
  case s5 =>
    intro W hB K hK
    simp only [tellK, Act.put, List.setIfInBounds_toArray, List.set_cons_zero, List.set_cons_succ] at hK ⊢
    refine tell_do rfl ?_
    obtain ⟨c0, c1, c2, c3, c4, c5⟩ := cells6 (HP.below hB)
    go_simp
    go_at_call 48; refine (rRight_yes p h _).mono ?_; rintro e w6 ⟨rfl, h6⟩; exact hK _ h6
  case s21 | s22 | s23 | s24 | s25 | s26 | s27 | s30 | s31 | s32 | s33 | s34 | s35 | s36 =>
    intro W hB K hK
    simp only [tellK, Act.put, List.setIfInBounds_toArray, List.set_cons_zero, List.set_cons_succ] at hK ⊢
    refine tell_not rfl ?_
    exact hK _ (Below.refl _ _)
  case hQ =>
    intro W hB
    simp only [tellGo, sayAt, List.getD_cons_zero, List.getD_cons_succ, Act.put, List.setIfInBounds_toArray, List.set_cons_zero, List.set_cons_succ]
    replace hB := bt_ hB9 hB
    go_wp2_with fail
    refine (alive14 _).mono ?_
    rintro e w9 ⟨rfl, h⟩
    have hB := bt_ hB h
    clear h
    go_wp2
    go_ret
    exact ⟨rfl, hB⟩
set_option maxRecDepth 100000 in
set_option maxHeartbeats 6400000 in
theorem maskHides_4 (p : Pl) (va vb vt vw : Value) (a b t : List F) (zs : List Int) (w : World) (ha : Rb w va a) (hb : Rb w vb b) (ht : Rb w vt t) (hw : Ri w vw zs) (hL0 : Lite p) (h : p.Ok) (h60 : a.length ≤ 60) (hab : a.length = b.length) (n : Nat) (hn : p.T.toNat * F.nS p.L.toNat a.length = n) (hx : ¬ n ≤ t.length) : Calls Try.prog 33 #[planV p, .agg #[va, vb, vt], vw] w fun e w' => e = .returned (.bool true) ∧ Below w.heap.size w w' := by
  have hL := Lib.hid (decide_eq_true hL0)
  have t3 : decide ((60 : Int) < (a.length : Int)) = false := decide_eq_false (by omega)
  have hl : a.length ≤ 240 := by omega
  have tE : ((a.length : Int) != (b.length : Int)) = false := by rw [hab]; simp
  have hcost := Lib.hid (cost_nat14 h hn)
  replace hab := Lib.hid hab
  replace hn := Lib.hid hn
  have t5 : t.length < n := by omega
  clear hx
  obtain ⟨Aa, ca, rfl⟩ := rk_form ha
  obtain ⟨Ab, cb, rfl⟩ := rk_form hb
  obtain ⟨At, ct, rfl⟩ := rk_form ht
  obtain ⟨Aw, cw, rfl⟩ := rk_form hw
  have HP := (Blk.new w (planC p) 33).alloc (.cells #[.slice Aa a.length ca, .slice Ab b.length cb, .slice At t.length ct] 116)
  have HQ := Blk.new' (w.alloc (.cells (planC p) 33)) #[.slice Aa a.length ca, .slice Ab b.length cb, .slice At t.length ct] 116 (World.size_alloc _ _)
  have hB9 := below_alloc (below_alloc (Below.refl w.heap.size w) (.cells (planC p) 33)) (.cells #[.slice Aa a.length ca, .slice Ab b.length cb, .slice At t.length ct] 116)
  replace ha := ha.below hB9
  replace hb := hb.below hB9
  replace ht := ht.below hB9
  replace hw := hw.below hB9
  go_enter Try.func33, Try.ntmps33
  go_wp2_with fail
  generalize (w.alloc (.cells (planC p) 33)).alloc (.cells #[.slice Aa a.length ca, .slice Ab b.length cb, .slice At t.length ct] 116) = w1 at *
  have q0 := HQ.cell 0 _ rfl
  have q1 := HQ.cell 1 _ rfl
  have q2 := HQ.cell 2 _ rfl
  go_quiet (fail)
  replace HP := HP.below (pw_below_drewN (Below.refl _ _) nq)
  replace ha := ha.drewN nq
  replace hb := hb.drewN nq
  replace ht := ht.drewN nq
  replace hw := hw.drewN nq
  replace hB9 := pw_below_drewN hB9 nq
  clear q0 q1 q2 HQ
  generalize w1.drewN nq = w2 at *
  go_wp2_with fail
  refine wp_region_tell [.v (planV p),.v (.bool true),.v (.bool false),.v (.bool false),.v (planV p),.v (.bool true),.v (.bool false),.v (.bool false),.v (.bool false),.v (.slice Aa a.length ca),.v (.int .i64 (a.length : Int)),.v (.bool false),.v (.bool false),.v (.bool false),.v (.slice Aa a.length ca),.v (.int .i64 (a.length : Int)),.v (.slice Ab b.length cb),.v (.int .i64 (b.length : Int)),.v (.bool false),.v (.bool false),.v (.bool false),.v (.slice At t.length ct),.v (.int .i64 (t.length : Int)),.v (planV p),.v (.slice Aa a.length ca),.v (.int .i64 (a.length : Int)),.v (.int .i64 (n : Int)),.v (.bool true),.v (.bool true),.v (.bool true),.v (undef),.v (undef),.v (undef),.v (undef),.v (undef),.v (undef),.v (undef),.v (.bool true)] [([],none),([(0,some 36)],none),([(1,some 37)],none),([(2,some 38)],none),([(3,some 39)],some (some 39,false)),([(3,some 39),(4,some 40)],some (some 39,false)),([(3,some 39),(5,some 41)],some (some 39,false)),([(3,some 39),(6,some 42)],none),([(7,some 43)],none),([(8,some 44)],some (some 44,false)),([(8,some 44),(9,some 45)],some (some 44,false)),([(8,some 44),(10,some 46)],some (some 44,false)),([(8,some 44),(11,some 47)],none),([(12,some 48)],none),([(13,some 49)],some (some 49,false)),([(13,some 49),(14,some 50)],some (some 49,false)),([(13,some 49)],some (some 49,false)),([(13,some 49),(16,some 52)],some (some 49,false)),([(13,some 49),(15,some 51),(17,some 53)],some (some 49,false)),([(13,some 49),(18,some 54)],none),([(19,some 55)],none),([(20,some 56)],some (some 56,false)),([(20,some 56),(21,some 57)],some (some 56,false)),([(20,some 56)],some (some 56,false)),([(20,some 56)],some (some 56,false)),([(20,some 56),(24,some 60)],some (some 56,false)),([(20,some 56),(23,some 59),(25,some 61)],some (some 56,false)),([(20,some 56),(22,some 58),(26,some 62)],some (some 56,false)),([(20,some 56),(27,some 63)],none),([(28,some 64)],none),([(29,some 65)],some (some 65,false)),([(29,some 65)],some (some 65,false)),([(29,some 65),(31,some 67)],some (some 65,false)),([(29,some 65),(32,some 68)],some (some 65,false)),([(29,some 65)],some (some 65,false)),([(29,some 65),(30,some 66),(33,some 69),(34,some 70)],some (some 65,false)),([(29,some 65),(35,some 71)],some (some 65,false)),([(29,some 65),(36,some 72)],none)] [(0,some 36),(1,some 37),(2,some 38),(3,some 39),(4,some 40),(5,some 41),(6,some 42),(7,some 43),(8,some 44),(9,some 45),(10,some 46),(11,some 47),(12,some 48),(13,some 49),(14,some 50),(15,some 51),(16,some 52),(17,some 53),(18,some 54),(19,some 55),(20,some 56),(21,some 57),(22,some 58),(23,some 59),(24,some 60),(25,some 61),(26,some 62),(27,some 63),(28,some 64),(29,some 65),(30,some 66),(31,some 67),(32,some 68),(33,some 69),(34,some 70),(35,some 71),(36,some 72),(37,some 73)] (by kernel_rfl) (by kernel_rfl) (by kernel_rfl) (by kernel_rfl) (by exact ⟨trivial,trivial,trivial,trivial,trivial,trivial,trivial,trivial,trivial,trivial,trivial,trivial,trivial,trivial,trivial,trivial,trivial,trivial,trivial,trivial,trivial,trivial,trivial,trivial,trivial,trivial,trivial,trivial,trivial,trivial,trivial,trivial,trivial,trivial,trivial,trivial,trivial,trivial,trivial⟩) ⟨?s0,?s1,?s2,?s3,?s4,?s5,?s6,?s7,?s8,?s9,?s10,?s11,?s12,?s13,?s14,?s15,?s16,?s17,?s18,?s19,?s20,?s21,?s22,?s23,?s24,?s25,?s26,?s27,?s28,?s29,?s30,?s31,?s32,?s33,?s34,?s35,?s36,?s37,trivial⟩ ?hQ
  case s0 | s2 | s3 | s4 | s6 | s7 | s8 | s9 | s10 | s11 | s12 | s13 | s14 | s15 | s16 | s17 | s18 | s19 | s20 | s21 | s22 | s23 | s24 | s25 | s27 | s28 | s29 | s37 =>
    intro W hB K hK
    simp only [tellK, Act.put, List.setIfInBounds_toArray, List.set_cons_zero, List.set_cons_succ] at hK ⊢
    refine tell_do rfl ?_
    obtain ⟨c0, c1, c2, c3, c4, c5⟩ := cells6 (HP.below hB)
    go_simp
    exact hK _ (Below.refl _ _)
  case s1 =>
    intro W hB K hK
    simp only [tellK, Act.put, List.setIfInBounds_toArray, List.set_cons_zero, List.set_cons_succ] at hK ⊢
    refine tell_do rfl ?_
    obtain ⟨c0, c1, c2, c3, c4, c5⟩ := cells6 (HP.below hB)
    go_simp
    go_at_call 93; refine (light_c p _).mono ?_; rintro e w6 ⟨rfl, h6⟩; rw [hL.out]; exact hK _ h6
  case s5 =>
    intro W hB K hK
    simp only [tellK, Act.put, List.setIfInBounds_toArray, List.set_cons_zero, List.set_cons_succ] at hK ⊢
    refine tell_do rfl ?_
    obtain ⟨c0, c1, c2, c3, c4, c5⟩ := cells6 (HP.below hB)
    go_simp
    go_at_call 48; refine (rRight_yes p h _).mono ?_; rintro e w6 ⟨rfl, h6⟩; exact hK _ h6
  case s26 =>
    intro W hB K hK
    simp only [tellK, Act.put, List.setIfInBounds_toArray, List.set_cons_zero, List.set_cons_succ] at hK ⊢
    refine tell_do rfl ?_
    obtain ⟨c0, c1, c2, c3, c4, c5⟩ := cells6 (HP.below hB)
    go_simp
    go_at_call 125; refine (rCost_c p h a.length hl _).mono ?_; rintro e w6 ⟨rfl, h6⟩; rw [hcost.out]; exact hK _ h6
  case s30 | s31 | s32 | s33 | s34 | s35 | s36 =>
    intro W hB K hK
    simp only [tellK, Act.put, List.setIfInBounds_toArray, List.set_cons_zero, List.set_cons_succ] at hK ⊢
    refine tell_not rfl ?_
    exact hK _ (Below.refl _ _)
  case hQ =>
    intro W hB
    simp only [tellGo, sayAt, List.getD_cons_zero, List.getD_cons_succ, Act.put, List.setIfInBounds_toArray, List.set_cons_zero, List.set_cons_succ]
    replace hB := bt_ hB9 hB
    go_wp2_with fail
    refine (alive14 _).mono ?_
    rintro e w9 ⟨rfl, h⟩
    have hB := bt_ hB h
    clear h
    go_wp2
    go_ret
    exact ⟨rfl, hB⟩
set_option maxRecDepth 100000 in
set_option maxHeartbeats 6400000 in
theorem maskHides_5 (p : Pl) (va vb vt vw : Value) (a b t : List F) (zs : List Int) (w : World) (ha : Rb w va a) (hb : Rb w vb b) (ht : Rb w vt t) (hw : Ri w vw zs) (hL0 : Lite p) (h : p.Ok) (h60 : a.length ≤ 60) (hab : a.length = b.length) (n : Nat) (hn : p.T.toNat * F.nS p.L.toNat a.length = n) (hx : n ≤ t.length) (hma : maE p p.L.toNat zs ≠ 0) : Calls Try.prog 33 #[planV p, .agg #[va, vb, vt], vw] w fun e w' => e = .returned (.bool true) ∧ Below w.heap.size w w' := by
  have hL := Lib.hid (decide_eq_true hL0)
  have t3 : decide ((60 : Int) < (a.length : Int)) = false := decide_eq_false (by omega)
  have hl : a.length ≤ 240 := by omega
  have tE : ((a.length : Int) != (b.length : Int)) = false := by rw [hab]; simp
  have hcost := Lib.hid (cost_nat14 h hn)
  replace hab := Lib.hid hab
  replace hn := Lib.hid hn
  have t5 : ¬ t.length < n := by omega
  clear hx
  obtain ⟨Ln, eL⟩ : ∃ Ln : Nat, p.L = (Ln : Int) := ⟨p.L.toNat, by have := h.l; omega⟩
  have eLn : p.L.toNat = Ln := by omega
  have hLn : Ln ≤ 12 := by have := hL0.2.1; omega
  replace eL := Lib.hid eL
  rw [eLn] at hma
  have t9 : (maE p Ln zs != 0) = true := bne_iff_ne.2 hma
  clear hma eLn
  obtain ⟨Aa, ca, rfl⟩ := rk_form ha
  obtain ⟨Ab, cb, rfl⟩ := rk_form hb
  obtain ⟨At, ct, rfl⟩ := rk_form ht
  obtain ⟨Aw, cw, rfl⟩ := rk_form hw
  have HP := (Blk.new w (planC p) 33).alloc (.cells #[.slice Aa a.length ca, .slice Ab b.length cb, .slice At t.length ct] 116)
  have HQ := Blk.new' (w.alloc (.cells (planC p) 33)) #[.slice Aa a.length ca, .slice Ab b.length cb, .slice At t.length ct] 116 (World.size_alloc _ _)
  have hB9 := below_alloc (below_alloc (Below.refl w.heap.size w) (.cells (planC p) 33)) (.cells #[.slice Aa a.length ca, .slice Ab b.length cb, .slice At t.length ct] 116)
  replace ha := ha.below hB9
  replace hb := hb.below hB9
  replace ht := ht.below hB9
  replace hw := hw.below hB9
  go_enter Try.func33, Try.ntmps33
  go_wp2_with fail
  generalize (w.alloc (.cells (planC p) 33)).alloc (.cells #[.slice Aa a.length ca, .slice Ab b.length cb, .slice At t.length ct] 116) = w1 at *
  have q0 := HQ.cell 0 _ rfl
  have q1 := HQ.cell 1 _ rfl
  have q2 := HQ.cell 2 _ rfl
  go_quiet (fail)
  replace HP := HP.below (pw_below_drewN (Below.refl _ _) nq)
  replace ha := ha.drewN nq
  replace hb := hb.drewN nq
  replace ht := ht.drewN nq
  replace hw := hw.drewN nq
  replace hB9 := pw_below_drewN hB9 nq
  clear q0 q1 q2 HQ
  generalize w1.drewN nq = w2 at *
  go_wp2_with fail
  refine wp_region_tell [.v (planV p),.v (.bool true),.v (.bool false),.v (.bool false),.v (planV p),.v (.bool true),.v (.bool false),.v (.bool false),.v (.bool false),.v (.slice Aa a.length ca),.v (.int .i64 (a.length : Int)),.v (.bool false),.v (.bool false),.v (.bool false),.v (.slice Aa a.length ca),.v (.int .i64 (a.length : Int)),.v (.slice Ab b.length cb),.v (.int .i64 (b.length : Int)),.v (.bool false),.v (.bool false),.v (.bool false),.v (.slice At t.length ct),.v (.int .i64 (t.length : Int)),.v (planV p),.v (.slice Aa a.length ca),.v (.int .i64 (a.length : Int)),.v (.int .i64 (n : Int)),.v (.bool false),.v (.bool false),.v (.bool false),.v (planV p),.v (.pointer (some ⟨w.heap.size,2,none⟩)),.v (.int .i64 (Ln : Int)),.p (isB (List.replicate Ln 0)),.v (.slice Aw zs.length cw),.v (.int .i64 (maE p Ln zs)),.v (.bool true),.v (.bool true)] [([],none),([(0,some 36)],none),([(1,some 37)],none),([(2,some 38)],none),([(3,some 39)],some (some 39,false)),([(3,some 39),(4,some 40)],some (some 39,false)),([(3,some 39),(5,some 41)],some (some 39,false)),([(3,some 39),(6,some 42)],none),([(7,some 43)],none),([(8,some 44)],some (some 44,false)),([(8,some 44),(9,some 45)],some (some 44,false)),([(8,some 44),(10,some 46)],some (some 44,false)),([(8,some 44),(11,some 47)],none),([(12,some 48)],none),([(13,some 49)],some (some 49,false)),([(13,some 49),(14,some 50)],some (some 49,false)),([(13,some 49)],some (some 49,false)),([(13,some 49),(16,some 52)],some (some 49,false)),([(13,some 49),(15,some 51),(17,some 53)],some (some 49,false)),([(13,some 49),(18,some 54)],none),([(19,some 55)],none),([(20,some 56)],some (some 56,false)),([(20,some 56),(21,some 57)],some (some 56,false)),([(20,some 56)],some (some 56,false)),([(20,some 56)],some (some 56,false)),([(20,some 56),(24,some 60)],some (some 56,false)),([(20,some 56),(23,some 59),(25,some 61)],some (some 56,false)),([(20,some 56),(22,some 58),(26,some 62)],some (some 56,false)),([(20,some 56),(27,some 63)],none),([(28,some 64)],none),([(29,some 65)],some (some 65,false)),([(29,some 65)],some (some 65,false)),([(29,some 65),(31,some 67)],some (some 65,false)),([(29,some 65),(32,some 68)],some (some 65,false)),([(29,some 65)],some (some 65,false)),([(29,some 65),(30,some 66),(33,some 69),(34,some 70)],some (some 65,false)),([(29,some 65),(35,some 71)],some (some 65,false)),([(29,some 65),(36,some 72)],none)] [(0,some 36),(1,some 37),(2,some 38),(3,some 39),(4,some 40),(5,some 41),(6,some 42),(7,some 43),(8,some 44),(9,some 45),(10,some 46),(11,some 47),(12,some 48),(13,some 49),(14,some 50),(15,some 51),(16,some 52),(17,some 53),(18,some 54),(19,some 55),(20,some 56),(21,some 57),(22,some 58),(23,some 59),(24,some 60),(25,some 61),(26,some 62),(27,some 63),(28,some 64),(29,some 65),(30,some 66),(31,some 67),(32,some 68),(33,some 69),(34,some 70),(35,some 71),(36,some 72),(37,some 73)] (by kernel_rfl) (by kernel_rfl) (by kernel_rfl) (by kernel_rfl) (by exact ⟨trivial,trivial,trivial,trivial,trivial,trivial,trivial,trivial,trivial,trivial,trivial,trivial,trivial,trivial,trivial,trivial,trivial,trivial,trivial,trivial,trivial,trivial,trivial,trivial,trivial,trivial,trivial,trivial,trivial,trivial,trivial,trivial,trivial,last_B _,trivial,trivial,trivial,trivial,trivial⟩) ⟨?s0,?s1,?s2,?s3,?s4,?s5,?s6,?s7,?s8,?s9,?s10,?s11,?s12,?s13,?s14,?s15,?s16,?s17,?s18,?s19,?s20,?s21,?s22,?s23,?s24,?s25,?s26,?s27,?s28,?s29,?s30,?s31,?s32,?s33,?s34,?s35,?s36,?s37,trivial⟩ ?hQ
  case s0 | s2 | s3 | s4 | s6 | s7 | s8 | s9 | s10 | s11 | s12 | s13 | s14 | s15 | s16 | s17 | s18 | s19 | s20 | s21 | s22 | s23 | s24 | s25 | s27 | s28 | s29 | s30 | s31 | s34 | s36 | s37 =>
    intro W hB K hK
    simp only [tellK, Act.put, List.setIfInBounds_toArray, List.set_cons_zero, List.set_cons_succ] at hK ⊢
    refine tell_do rfl ?_
    obtain ⟨c0, c1, c2, c3, c4, c5⟩ := cells6 (HP.below hB)
    go_simp
    exact hK _ (Below.refl _ _)
  case s1 =>
    intro W hB K hK
    simp only [tellK, Act.put, List.setIfInBounds_toArray, List.set_cons_zero, List.set_cons_succ] at hK ⊢
    refine tell_do rfl ?_
    obtain ⟨c0, c1, c2, c3, c4, c5⟩ := cells6 (HP.below hB)
    go_simp
    go_at_call 93; refine (light_c p _).mono ?_; rintro e w6 ⟨rfl, h6⟩; rw [hL.out]; exact hK _ h6
  case s5 =>
    intro W hB K hK
    simp only [tellK, Act.put, List.setIfInBounds_toArray, List.set_cons_zero, List.set_cons_succ] at hK ⊢
    refine tell_do rfl ?_
    obtain ⟨c0, c1, c2, c3, c4, c5⟩ := cells6 (HP.below hB)
    go_simp
    go_at_call 48; refine (rRight_yes p h _).mono ?_; rintro e w6 ⟨rfl, h6⟩; exact hK _ h6
  case s26 =>
    intro W hB K hK
    simp only [tellK, Act.put, List.setIfInBounds_toArray, List.set_cons_zero, List.set_cons_succ] at hK ⊢
    refine tell_do rfl ?_
    obtain ⟨c0, c1, c2, c3, c4, c5⟩ := cells6 (HP.below hB)
    go_simp
    go_at_call 125; refine (rCost_c p h a.length hl _).mono ?_; rintro e w6 ⟨rfl, h6⟩; rw [hcost.out]; exact hK _ h6
  case s32 =>
    intro W hB K hK
    simp only [tellK, Act.put, List.setIfInBounds_toArray, List.set_cons_zero, List.set_cons_succ] at hK ⊢
    refine tell_do rfl ?_
    obtain ⟨c0, c1, c2, c3, c4, c5⟩ := cells6 (HP.below hB)
    rw [eL.out] at c2; go_simp; exact hK _ (Below.refl _ _)
  case s33 =>
    intro W hB K hK
    simp only [tellK, Act.put, List.setIfInBounds_toArray, List.set_cons_zero, List.set_cons_succ] at hK ⊢
    refine tell_do rfl ?_
    obtain ⟨c0, c1, c2, c3, c4, c5⟩ := cells6 (HP.below hB)
    have hr := print_make_of (P := Try.prog) 40 5 (.int .u8 0) 1 Try.underlying40 infoB rfl (by decide) Ln (by omega) W; go_simp; exact hK _ _ (made_rb W Ln (by omega)) (alloc_b _ _)
  case s35 =>
    intro W hB v33 h33 K hK
    replace h33 : Rb W v33 (List.replicate Ln 0) := h33
    simp only [tellK, Act.put, List.setIfInBounds_toArray, List.set_cons_zero, List.set_cons_succ] at hK ⊢
    refine tell_do rfl ?_
    obtain ⟨c0, c1, c2, c3, c4, c5⟩ := cells6 (HP.below hB)
    go_simp
    go_at_call 138; refine (rCheck14_c p h _ _ (List.replicate Ln 0) zs _ h33 (hw.below hB)).mono ?_; rintro e w6 ⟨rfl, h6⟩; rw [List.length_replicate]; exact hK _ h6
  case hQ =>
    intro W hB v33 h33
    replace h33 : Rb W v33 (List.replicate Ln 0) := h33
    simp only [tellGo, sayAt, List.getD_cons_zero, List.getD_cons_succ, Act.put, List.setIfInBounds_toArray, List.set_cons_zero, List.set_cons_succ]
    replace hB := bt_ hB9 hB
    go_wp2_with fail
    refine (alive14 _).mono ?_
    rintro e w9 ⟨rfl, h⟩
    have hB := bt_ hB h
    clear h
    go_wp2
    go_ret
    exact ⟨rfl, hB⟩
set_option maxRecDepth 100000 in
set_option maxHeartbeats 12800000 in
theorem maskHides_6 (p : Pl) (va vb vt vw : Value) (a b t : List F) (zs : List Int) (w : World) (ha : Rb w va a) (hb : Rb w vb b) (ht : Rb w vt t) (hw : Ri w vw zs) (hL0 : Lite p) (h : p.Ok) (h60 : a.length ≤ 60) (hab : a.length = b.length) (n : Nat) (hn : p.T.toNat * F.nS p.L.toNat a.length = n) (hx : n ≤ t.length) (hma : maE p p.L.toNat zs = 0) (hT9 : t.length ≤ 140737488351232) : Calls Try.prog 33 #[planV p, .agg #[va, vb, vt], vw] w fun e w' => e = .returned (.bool true) ∧ Below w.heap.size w w' := by
  replace hT9 := Lib.hid hT9
  have hlb : b.length ≤ 240 := by omega
  have hK : Hid (p.T + p.L < 255) := Lib.hid (by have := hL0.2.1; have := hL0.2.2; omega)
  have hhid : Hid (∀ i ∈ zs, shs p a t (i - 1).toNat = shs p b (hidT p a b zs t (F.nS p.L.toNat a.length)) (i - 1).toNat) := Lib.hid (fun i hi => hides p h hK.out a b t hab zs hma (by rw [hn]; exact hx) i hi)
  have hzs := Lib.hid (ma_zero hma)
  have hzl : zs.length ≤ 12 := by have e1 := hzs.out.2.1; have e2 := hL0.2.2; omega
  have hmz : Hid (∀ k, maE p (dlt p a b k).length zs = 0) := Lib.hid (fun k => by rw [dlt_len]; exact hma)
  have hla : Hid (p.T * (F.nS p.L.toNat a.length : Int) ≤ (t.length : Int)) := Lib.hid (by rw [cost_nat14 h hn]; omega)
  have hlb2 : Hid (p.T * (F.nS p.L.toNat b.length : Int) ≤ ((hidT p a b zs t (F.nS p.L.toNat a.length)).length : Int)) := Lib.hid (by rw [hidT_len, ← hab, cost_nat14 h hn]; omega)
  have hSb : Hid (F.nS p.L.toNat b.length = F.nS p.L.toNat a.length) := Lib.hid (by rw [hab])
  have hS60 : F.nS p.L.toNat a.length ≤ 60 := Nat.le_trans (F.nS_le_len p.L.toNat a.length (by have := h.l; omega)) h60
  have eN : (p.N.toNat : Int) = p.N := by have := h.t; have := h.l; have := h.tl; have := h.wn; omega
  have tN : ((p.N.toNat : Int) != p.N) = false := by rw [eN]; simp
  have hN9 := hL0.1
  obtain ⟨Tn, eT⟩ : ∃ Tn : Nat, p.T = (Tn : Int) := ⟨p.T.toNat, by have := h.t; omega⟩
  have eTn : Hid (p.T.toNat = Tn) := Lib.hid (by omega)
  have hTn : Tn ≤ 12 := by have := hL0.2.2; omega
  have tT : ((Tn : Int) != p.T) = false := by rw [eT]; simp
  replace eT := Lib.hid eT
  have hL := Lib.hid (decide_eq_true hL0)
  have t3 : decide ((60 : Int) < (a.length : Int)) = false := decide_eq_false (by omega)
  have hl : a.length ≤ 240 := by omega
  have tE : ((a.length : Int) != (b.length : Int)) = false := by rw [hab]; simp
  have hcost := Lib.hid (cost_nat14 h hn)
  replace hab := Lib.hid hab
  replace hn := Lib.hid hn
  have t5 : ¬ t.length < n := by omega
  obtain ⟨Ln, eL⟩ : ∃ Ln : Nat, p.L = (Ln : Int) := ⟨p.L.toNat, by have := h.l; omega⟩
  have eLn : p.L.toNat = Ln := by omega
  have hLn : Ln ≤ 12 := by have := hL0.2.1; omega
  replace eL := Lib.hid eL
  have hma2 : Hid (maE p Ln zs = 0) := Lib.hid (by rw [← eLn]; exact hma)
  have t9 : (maE p Ln zs != 0) = false := by rw [hma2.out]; rfl
  have hrl0 : Hid (∀ k, (F.rowOf p.L.toNat a k).length ≤ 1000000) := Lib.hid (fun k => by rw [F.rowOf_len, eLn]; omega)
  replace hx := Lib.hid hx
  have hshl : Hid (∀ k, (shOf p (dlt p a b k) zs).length ≤ 1000000) := Lib.hid (fun k => by have e1 := sh_len' h (hmz.out k); have e2 := hL0.2.1; have e3 := hL0.2.2; omega)
  have hml : Hid (∀ k, (dealM p (dlt p a b k) (shOf p (dlt p a b k) zs)).length = Tn) := Lib.hid (fun k => by rw [dealM_len, eTn.out])
  have hstep : Hid (∀ u k, apM (hidT p a b zs u k) ((k * Tn : Nat) : Int) (dealM p (dlt p a b k) (shOf p (dlt p a b k) zs)) = hidT p a b zs u (k + 1)) := Lib.hid (fun u k => by rw [← eTn.out]; rfl)
  clear hma eLn
  obtain ⟨Aa, ca, rfl⟩ := rk_form ha
  obtain ⟨Ab, cb, rfl⟩ := rk_form hb
  obtain ⟨At, ct, rfl⟩ := rk_form ht
  obtain ⟨Aw, cw, rfl⟩ := rk_form hw
  have HP := (Blk.new w (planC p) 33).alloc (.cells #[.slice Aa a.length ca, .slice Ab b.length cb, .slice At t.length ct] 116)
  have HQ := Blk.new' (w.alloc (.cells (planC p) 33)) #[.slice Aa a.length ca, .slice Ab b.length cb, .slice At t.length ct] 116 (World.size_alloc _ _)
  have hB9 := below_alloc (below_alloc (Below.refl w.heap.size w) (.cells (planC p) 33)) (.cells #[.slice Aa a.length ca, .slice Ab b.length cb, .slice At t.length ct] 116)
  replace ha := ha.below hB9
  replace hb := hb.below hB9
  replace ht := ht.below hB9
  replace hw := hw.below hB9
  go_enter Try.func33, Try.ntmps33
  go_wp2_with fail
  generalize (w.alloc (.cells (planC p) 33)).alloc (.cells #[.slice Aa a.length ca, .slice Ab b.length cb, .slice At t.length ct] 116) = w1 at *
  have q0 := HQ.cell 0 _ rfl
  have q1 := HQ.cell 1 _ rfl
  have q2 := HQ.cell 2 _ rfl
  go_quiet (fail)
  replace HP := HP.below (pw_below_drewN (Below.refl _ _) nq)
  replace ha := ha.drewN nq
  replace hb := hb.drewN nq
  replace ht := ht.drewN nq
  replace hw := hw.drewN nq
  replace hB9 := pw_below_drewN hB9 nq
  clear q0 q1 q2 HQ
  generalize w1.drewN nq = w2 at *
  go_wp2_with fail
  refine wp_region_tell [.v (planV p),.v (.bool true),.v (.bool false),.v (.bool false),.v (planV p),.v (.bool true),.v (.bool false),.v (.bool false),.v (.bool false),.v (.slice Aa a.length ca),.v (.int .i64 (a.length : Int)),.v (.bool false),.v (.bool false),.v (.bool false),.v (.slice Aa a.length ca),.v (.int .i64 (a.length : Int)),.v (.slice Ab b.length cb),.v (.int .i64 (b.length : Int)),.v (.bool false),.v (.bool false),.v (.bool false),.v (.slice At t.length ct),.v (.int .i64 (t.length : Int)),.v (planV p),.v (.slice Aa a.length ca),.v (.int .i64 (a.length : Int)),.v (.int .i64 (n : Int)),.v (.bool false),.v (.bool false),.v (.bool false),.v (planV p),.v (.pointer (some ⟨w.heap.size,2,none⟩)),.v (.int .i64 (Ln : Int)),.p (isB (List.replicate Ln 0)),.v (.slice Aw zs.length cw),.v (.int .i64 (maE p Ln zs)),.v (.bool false),.v (.bool false)] [([],none),([(0,some 36)],none),([(1,some 37)],none),([(2,some 38)],none),([(3,some 39)],some (some 39,false)),([(3,some 39),(4,some 40)],some (some 39,false)),([(3,some 39),(5,some 41)],some (some 39,false)),([(3,some 39),(6,some 42)],none),([(7,some 43)],none),([(8,some 44)],some (some 44,false)),([(8,some 44),(9,some 45)],some (some 44,false)),([(8,some 44),(10,some 46)],some (some 44,false)),([(8,some 44),(11,some 47)],none),([(12,some 48)],none),([(13,some 49)],some (some 49,false)),([(13,some 49),(14,some 50)],some (some 49,false)),([(13,some 49)],some (some 49,false)),([(13,some 49),(16,some 52)],some (some 49,false)),([(13,some 49),(15,some 51),(17,some 53)],some (some 49,false)),([(13,some 49),(18,some 54)],none),([(19,some 55)],none),([(20,some 56)],some (some 56,false)),([(20,some 56),(21,some 57)],some (some 56,false)),([(20,some 56)],some (some 56,false)),([(20,some 56)],some (some 56,false)),([(20,some 56),(24,some 60)],some (some 56,false)),([(20,some 56),(23,some 59),(25,some 61)],some (some 56,false)),([(20,some 56),(22,some 58),(26,some 62)],some (some 56,false)),([(20,some 56),(27,some 63)],none),([(28,some 64)],none),([(29,some 65)],some (some 65,false)),([(29,some 65)],some (some 65,false)),([(29,some 65),(31,some 67)],some (some 65,false)),([(29,some 65),(32,some 68)],some (some 65,false)),([(29,some 65)],some (some 65,false)),([(29,some 65),(30,some 66),(33,some 69),(34,some 70)],some (some 65,false)),([(29,some 65),(35,some 71)],some (some 65,false)),([(29,some 65),(36,some 72)],none)] [(0,some 36),(1,some 37),(2,some 38),(3,some 39),(4,some 40),(5,some 41),(6,some 42),(7,some 43),(8,some 44),(9,some 45),(10,some 46),(11,some 47),(12,some 48),(13,some 49),(14,some 50),(15,some 51),(16,some 52),(17,some 53),(18,some 54),(19,some 55),(20,some 56),(21,some 57),(22,some 58),(23,some 59),(24,some 60),(25,some 61),(26,some 62),(27,some 63),(28,some 64),(29,some 65),(30,some 66),(31,some 67),(32,some 68),(33,some 69),(34,some 70),(35,some 71),(36,some 72),(37,some 73)] (by kernel_rfl) (by kernel_rfl) (by kernel_rfl) (by kernel_rfl) (by exact ⟨trivial,trivial,trivial,trivial,trivial,trivial,trivial,trivial,trivial,trivial,trivial,trivial,trivial,trivial,trivial,trivial,trivial,trivial,trivial,trivial,trivial,trivial,trivial,trivial,trivial,trivial,trivial,trivial,trivial,trivial,trivial,trivial,trivial,last_B _,trivial,trivial,trivial,trivial,trivial⟩) ⟨?s0,?s1,?s2,?s3,?s4,?s5,?s6,?s7,?s8,?s9,?s10,?s11,?s12,?s13,?s14,?s15,?s16,?s17,?s18,?s19,?s20,?s21,?s22,?s23,?s24,?s25,?s26,?s27,?s28,?s29,?s30,?s31,?s32,?s33,?s34,?s35,?s36,?s37,trivial⟩ ?hQ
  case s0 | s2 | s3 | s4 | s6 | s7 | s8 | s9 | s10 | s11 | s12 | s13 | s14 | s15 | s16 | s17 | s18 | s19 | s20 | s21 | s22 | s23 | s24 | s25 | s27 | s28 | s29 | s30 | s31 | s34 | s36 | s37 =>
    intro W hB K hK
    simp only [tellK, Act.put, List.setIfInBounds_toArray, List.set_cons_zero, List.set_cons_succ] at hK ⊢
    refine tell_do rfl ?_
    obtain ⟨c0, c1, c2, c3, c4, c5⟩ := cells6 (HP.below hB)
    go_simp
    exact hK _ (Below.refl _ _)
  case s1 =>
    intro W hB K hK
    simp only [tellK, Act.put, List.setIfInBounds_toArray, List.set_cons_zero, List.set_cons_succ] at hK ⊢
    refine tell_do rfl ?_
    obtain ⟨c0, c1, c2, c3, c4, c5⟩ := cells6 (HP.below hB)
    go_simp
    go_at_call 93; refine (light_c p _).mono ?_; rintro e w6 ⟨rfl, h6⟩; rw [hL.out]; exact hK _ h6
  case s5 =>
    intro W hB K hK
    simp only [tellK, Act.put, List.setIfInBounds_toArray, List.set_cons_zero, List.set_cons_succ] at hK ⊢
    refine tell_do rfl ?_
    obtain ⟨c0, c1, c2, c3, c4, c5⟩ := cells6 (HP.below hB)
    go_simp
    go_at_call 48; refine (rRight_yes p h _).mono ?_; rintro e w6 ⟨rfl, h6⟩; exact hK _ h6
  case s26 =>
    intro W hB K hK
    simp only [tellK, Act.put, List.setIfInBounds_toArray, List.set_cons_zero, List.set_cons_succ] at hK ⊢
    refine tell_do rfl ?_
    obtain ⟨c0, c1, c2, c3, c4, c5⟩ := cells6 (HP.below hB)
    go_simp
    go_at_call 125; refine (rCost_c p h a.length hl _).mono ?_; rintro e w6 ⟨rfl, h6⟩; rw [hcost.out]; exact hK _ h6
  case s32 =>
    intro W hB K hK
    simp only [tellK, Act.put, List.setIfInBounds_toArray, List.set_cons_zero, List.set_cons_succ] at hK ⊢
    refine tell_do rfl ?_
    obtain ⟨c0, c1, c2, c3, c4, c5⟩ := cells6 (HP.below hB)
    rw [eL.out] at c2; go_simp; exact hK _ (Below.refl _ _)
  case s33 =>
    intro W hB K hK
    simp only [tellK, Act.put, List.setIfInBounds_toArray, List.set_cons_zero, List.set_cons_succ] at hK ⊢
    refine tell_do rfl ?_
    obtain ⟨c0, c1, c2, c3, c4, c5⟩ := cells6 (HP.below hB)
    have hr := print_make_of (P := Try.prog) 40 5 (.int .u8 0) 1 Try.underlying40 infoB rfl (by decide) Ln (by omega) W; go_simp; exact hK _ _ (made_rb W Ln (by omega)) (alloc_b _ _)
  case s35 =>
    intro W hB v33 h33 K hK
    replace h33 : Rb W v33 (List.replicate Ln 0) := h33
    simp only [tellK, Act.put, List.setIfInBounds_toArray, List.set_cons_zero, List.set_cons_succ] at hK ⊢
    refine tell_do rfl ?_
    obtain ⟨c0, c1, c2, c3, c4, c5⟩ := cells6 (HP.below hB)
    go_simp
    go_at_call 138; refine (rCheck14_c p h _ _ (List.replicate Ln 0) zs _ h33 (hw.below hB)).mono ?_; rintro e w6 ⟨rfl, h6⟩; rw [List.length_replicate]; exact hK _ h6
  case hQ =>
    intro W hB v33 h33
    replace h33 : Rb W v33 (List.replicate Ln 0) := h33
    simp only [tellGo, sayAt, List.getD_cons_zero, List.getD_cons_succ, Act.put, List.setIfInBounds_toArray, List.set_cons_zero, List.set_cons_succ]
    replace HP := HP.below hB
    replace ha := ha.below hB
    replace hb := hb.below hB
    replace ht := ht.below hB
    replace hw := hw.below hB
    replace hB9 := bt_ hB9 hB
    clear hB h33
    go_wp2_with fail
    refine (new_x _).mono ?_
    rintro e w3 ⟨bF, rfl, hF, h3⟩
    replace HP := HP.below h3
    replace ha := ha.below h3
    replace hb := hb.below h3
    replace ht := ht.below h3
    replace hw := hw.below h3
    replace hB9 := bt_ hB9 h3
    clear h3
    have hcx : Hid (∀ (v : Value) (W : World), Rb W v a → Calls Try.prog 90 #[planV p, v] W fun e W' => ∃ z, e = .returned z ∧ Obb W W' z (F.cutOf p.L.toNat a (F.nS p.L.toNat a.length)) ∧ Below W.heap.size W W') := Lib.hid (fun v W f => rCut_c p h v a W f hl)
    have hcy : Hid (∀ (v : Value) (W : World), Rb W v b → Calls Try.prog 90 #[planV p, v] W fun e W' => ∃ z, e = .returned z ∧ Obb W W' z (F.cutOf p.L.toNat b (F.nS p.L.toNat a.length)) ∧ Below W.heap.size W W') := Lib.hid (fun v W f => by have := rCut_c p h v b W f hlb; rw [hSb.out] at this; exact this)
    have hlX := Lib.hid (F.cutOf_len p.L.toNat a (F.nS p.L.toNat a.length))
    have hlY := Lib.hid (F.cutOf_len p.L.toNat b (F.nS p.L.toNat a.length))
    have hatX := Lib.hid (F.cutOf_at p.L.toNat a (F.nS p.L.toNat a.length))
    have hatY := Lib.hid (F.cutOf_at p.L.toNat b (F.nS p.L.toNat a.length))
    generalize hXe : F.cutOf p.L.toNat a (F.nS p.L.toNat a.length) = X at *
    generalize hYe : F.cutOf p.L.toNat b (F.nS p.L.toNat a.length) = Y at *
    generalize hSn : F.nS p.L.toNat a.length = Sn at *
    replace hXe := Lib.hid hXe
    replace hYe := Lib.hid hYe
    replace hSn := Lib.hid hSn
    go_wp2_with fail
    refine wp_region_tell [.v (planV p),.v (.slice Aa a.length ca),.p (isBB X),.v (planV p),.v (.slice Ab b.length cb),.p (isBB Y),.p (isBB X),.p (isBB Y)] [([],none),([],none),([(0,some 76),(1,some 77)],none),([],none),([],none),([(3,some 79),(4,some 80)],none),([(2,some 78)],none),([(5,some 81)],none)] [(0,some 76),(1,some 77),(2,some 78),(3,some 79),(4,some 80),(5,some 81),(6,some 11),(7,some 12)] (by kernel_rfl) (by kernel_rfl) (by kernel_rfl) (by kernel_rfl) (by exact ⟨trivial,trivial,last_BB _,trivial,trivial,last_BB _,last_BB _,last_BB _,trivial⟩) ⟨?s0,?s1,?s2,?s3,?s4,?s5,?s6,?s7,trivial⟩ ?hQ
    case s0 | s1 | s3 | s4 =>
      intro W hB K hK
      simp only [tellK, Act.put, List.setIfInBounds_toArray, List.set_cons_zero, List.set_cons_succ] at hK ⊢
      refine tell_do rfl ?_
      obtain ⟨c0, c1, c2, c3, c4, c5⟩ := cells6 (HP.below hB)
      go_simp
      exact hK _ (Below.refl _ _)
    case s2 =>
      intro W hB K hK
      simp only [tellK, Act.put, List.setIfInBounds_toArray, List.set_cons_zero, List.set_cons_succ] at hK ⊢
      refine tell_do rfl ?_
      obtain ⟨c0, c1, c2, c3, c4, c5⟩ := cells6 (HP.below hB)
      go_simp
      go_at_call 90; refine (hcx.out _ _ (ha.below hB)).mono ?_; rintro e w6 ⟨z, rfl, hZ, h6⟩; exact hK _ _ hZ.rk h6
    case s5 =>
      intro W hB K hK
      simp only [tellK, Act.put, List.setIfInBounds_toArray, List.set_cons_zero, List.set_cons_succ] at hK ⊢
      refine tell_do rfl ?_
      obtain ⟨c0, c1, c2, c3, c4, c5⟩ := cells6 (HP.below hB)
      go_simp
      go_at_call 90; refine (hcy.out _ _ (hb.below hB)).mono ?_; rintro e w6 ⟨z, rfl, hZ, h6⟩; exact hK _ _ hZ.rk h6
    case s6 =>
      intro W hB v2 h2 K hK
      replace h2 : Rbb W v2 X := h2
      simp only [tellK, Act.put, List.setIfInBounds_toArray, List.set_cons_zero, List.set_cons_succ] at hK ⊢
      refine tell_do rfl ?_
      obtain ⟨c0, c1, c2, c3, c4, c5⟩ := cells6 (HP.below hB)
      go_simp
      exact hK _ _ h2 (Below.refl _ _)
    case s7 =>
      intro W hB v5 h5 K hK
      replace h5 : Rbb W v5 Y := h5
      simp only [tellK, Act.put, List.setIfInBounds_toArray, List.set_cons_zero, List.set_cons_succ] at hK ⊢
      refine tell_do rfl ?_
      obtain ⟨c0, c1, c2, c3, c4, c5⟩ := cells6 (HP.below hB)
      go_simp
      exact hK _ _ h5 (Below.refl _ _)
    case hQ =>
      intro W hB v2 h2 v5 h5 v6 h6 v7 h7
      replace h2 : Rbb W v2 X := h2
      replace h5 : Rbb W v5 Y := h5
      replace h6 : Rbb W v6 X := h6
      replace h7 : Rbb W v7 Y := h7
      simp only [tellGo, Act.put, List.setIfInBounds_toArray, List.set_cons_zero, List.set_cons_succ]
      replace HP := HP.below hB
      replace ha := ha.below hB
      replace hb := hb.below hB
      replace ht := ht.below hB
      replace hw := hw.below hB
      replace hF := hF.below hB
      replace hB9 := bt_ hB9 hB
      clear hB h2 h5
      generalize W = wb at *
      have hX := h6
      have hY := h7
      clear h6 h7
      obtain ⟨AX, cX, rfl⟩ := rk_form hX
      obtain ⟨AY, cY, rfl⟩ := rk_form hY
      rw [hlX.out] at hX ⊢
      rw [hlY.out] at hY ⊢
      go_wp2_with fail
      go_loopw [13, 14, 15, 16, 17, 18, 85] (fun s _ _ _ _ _ i wr => ∃ k : Nat, k ≤ Sn ∧ i = .int .i64 k ∧ Rb wr s (hidT p a b zs t k) ∧ Below wb.heap.size wb wr) (fun _ _ _ _ _ _ i _ => Sn - (intOf i).toNat)
      case atStart => exact ⟨0, by omega, rfl, ht, Below.refl _ _⟩
      case round =>
        obtain ⟨k, hk, rfl, hO, hD⟩ := hrel
        by_cases hlt : k < Sn
        · obtain ⟨adx, ux, ex, d0, hux⟩ := kbb_at (rk_C hX) k (by rw [hlX.out]; exact hlt)
          obtain ⟨ady, uy, ey, d1, huy⟩ := kbb_at (rk_C hY) k (by rw [hlY.out]; exact hlt)
          subst ex
          subst ey
          rw [hatX.out k hlt] at hux
          rw [hatY.out k hlt] at huy
          obtain ⟨Bx, mx, cx, rfl⟩ : ∃ A m c, ux = .slice A m c := (rk_form hux).elim fun A h => h.elim fun c h => ⟨A, _, c, h⟩
          obtain ⟨By, my, cy, rfl⟩ : ∃ A m c, uy = .slice A m c := (rk_form huy).elim fun A h => h.elim fun c h => ⟨A, _, c, h⟩
          have hrl := Lib.hid (hrl0.out k)
          have hki : (k : Int) < (Sn : Int) := by omega
          have mk : (k : Int) * p.T = ((k * Tn : Nat) : Int) := by rw [eT.out, Int.natCast_mul]
          have hkT : k * Tn ≤ 60 * 12 := Nat.mul_le_mul (by omega) hTn
          obtain ⟨kT, ekT⟩ : ∃ kT, kT = k * Tn := ⟨_, rfl⟩
          have hst1 := Lib.hid (hstep.out t k)
          rw [← ekT] at mk hkT hst1
          replace ekT := Lib.hid ekT
          have ukT : IntKind.i64.wrap (kT : Int) = (kT : Int) := wrapI _ (by omega) (by omega)
          have htl' : t.length ≤ 140737488351232 := hT9.out
          go_wp2_with fail
          refine wp_region_tell [.v (.slice (some adx) Sn cX),.v (.int .i64 (k : Int)),.v (.pointer (some (adx.add k))),.v (.slice Bx mx cx),.v (.slice (some ady) Sn cY),.v (.int .i64 (k : Int)),.v (.pointer (some (ady.add k))),.v (.slice By my cy),.p (isB (dlt p a b k)),.p (isB (dlt p a b k))] [([],none),([],none),([(0,some 88),(1,some 89)],none),([(2,some 90)],none),([],none),([],none),([(4,some 92),(5,some 93)],none),([(6,some 94)],none),([(3,some 91),(7,some 95)],none),([(8,some 96)],none)] [(0,some 88),(1,some 89),(2,some 90),(3,some 91),(4,some 92),(5,some 93),(6,some 94),(7,some 95),(8,some 96),(9,some 15)] (by kernel_rfl) (by kernel_rfl) (by kernel_rfl) (by kernel_rfl) (by exact ⟨trivial,trivial,trivial,trivial,trivial,trivial,trivial,trivial,last_B _,last_B _,trivial⟩) ⟨?s0,?s1,?s2,?s3,?s4,?s5,?s6,?s7,?s8,?s9,trivial⟩ ?hQ
          case s0 | s1 | s2 | s3 | s4 | s5 | s6 | s7 =>
            intro W hB K hK
            simp only [tellK, Act.put, List.setIfInBounds_toArray, List.set_cons_zero, List.set_cons_succ] at hK ⊢
            refine tell_do rfl ?_
            have b0 := pw_cell_below (bt_ hD hB) d0; have b1 := pw_cell_below (bt_ hD hB) d1
            go_simp
            exact hK _ (Below.refl _ _)
          case s8 =>
            intro W hB K hK
            simp only [tellK, Act.put, List.setIfInBounds_toArray, List.set_cons_zero, List.set_cons_succ] at hK ⊢
            refine tell_do rfl ?_
            have b0 := pw_cell_below (bt_ hD hB) d0; have b1 := pw_cell_below (bt_ hD hB) d1
            go_simp
            go_at_call 127; refine (rXor_c _ _ (F.rowOf p.L.toNat a k) (F.rowOf p.L.toNat b k) _ (hux.below (bt_ hD hB)) (huy.below (bt_ hD hB)) hrl.out).mono ?_; rintro e w6 ⟨z, rfl, hZ, h6⟩; exact hK _ _ hZ.rk h6
          case s9 =>
            intro W hB v8 h8 K hK
            replace h8 : Rb W v8 (dlt p a b k) := h8
            simp only [tellK, Act.put, List.setIfInBounds_toArray, List.set_cons_zero, List.set_cons_succ] at hK ⊢
            refine tell_do rfl ?_
            have b0 := pw_cell_below (bt_ hD hB) d0; have b1 := pw_cell_below (bt_ hD hB) d1
            go_simp
            exact hK _ _ h8 (Below.refl _ _)
          case hQ =>
            intro W hB v8 h8 v9 h9
            replace h8 : Rb W v8 (dlt p a b k) := h8
            replace h9 : Rb W v9 (dlt p a b k) := h9
            simp only [tellGo, Act.put, List.setIfInBounds_toArray, List.set_cons_zero, List.set_cons_succ]
            have hD1 := bt_ hD hB
            have hO1 := hO.below hB
            clear h8
            have hF1 := hF.below hD1
            have hw1 := hw.below hD1
            obtain ⟨c0, c1, c2, c3, c4, c5⟩ := cells6 (HP.below hD1)
            go_wp2_with fail
            refine (mShift_ok bF p h hK.out _ _ (dlt p a b k) zs _ hF1 h9 hw1 (hmz.out k)).mono ?_
            rintro e w5 ⟨zS, rfl, sS, h5⟩
            replace sS := sS.rk
            have hD2 := bt_ hD1 h5
            clear c0 c1 c2 c3 c4 c5
            obtain ⟨c0, c1, c2, c3, c4, c5⟩ := cells6 (HP.below hD2)
            go_wp2_with fail
            refine (mDeal_c bF p h _ _ (dlt p a b k) (shOf p (dlt p a b k) zs) _ (hF.below hD2) (h9.below h5) sS (hshl.out k)).mono ?_
            rintro e w6 ⟨zM, rfl, sM, h6⟩
            replace sM := sM.rk
            have hD3 := bt_ hD2 h6
            have hO3 := (hO1.below h5).below h6
            obtain ⟨Am, cm, rfl⟩ := rk_form sM
            rw [hml.out k] at sM ⊢
            clear c0 c1 c2 c3 c4 c5
            obtain ⟨c0, c1, c2, c3, c4, c5⟩ := cells6 (HP.below hD3)
            go_wp2_with fail
            refine (mApply_c _ _ (hidT p a b zs t k) _ _ _ hO3 sM (by rw [hidT_len]; exact htl')).mono ?_
            rintro e w7 ⟨zO, rfl, sO, h7⟩
            rw [hst1.out] at sO
            replace sO := sO.rk
            have hD4 := bt_ hD3 h7
            go_wp2
            exact ⟨⟨k + 1, by omega, by go_num, sO, hD4⟩, by simp [intOf]; try omega⟩
        · obtain rfl : k = Sn := by omega
          replace HP := HP.below hD
          replace ha := ha.below hD
          replace hb := hb.below hD
          replace ht := ht.below hD
          replace hw := hw.below hD
          replace hF := hF.below hD
          replace hX := hX.below hD
          replace hY := hY.below hD
          replace hB9 := bt_ hB9 hD
          clear hD
          generalize wr = wb2 at *
          have hOT := hO
          have hOTl : Hid ((hidT p a b zs t k).length = t.length) := Lib.hid (hidT_len _ _ _ _ _ _)
          have hbk2 : Hid (hidT p a b zs (hidT p a b zs t k) k = t) := Lib.hid (hidT_back _ _ _ _ _ _)
          have hst2 := Lib.hid (hstep.out (hidT p a b zs t k))
          obtain ⟨AO, cO, rfl⟩ := rk_form hOT
          rw [hOTl.out] at hOT ⊢
          clear hO
          generalize hOTe : hidT p a b zs t k = OT at *
          generalize k = Sn at *
          replace hOTe := Lib.hid hOTe
          go_wp2_with fail
          go_loopw [19, 20, 21, 22, 23, 130] (fun s _ _ _ _ i wr => ∃ k : Nat, k ≤ Sn ∧ i = .int .i64 k ∧ Rb wr s (hidT p a b zs OT k) ∧ Below wb2.heap.size wb2 wr) (fun _ _ _ _ _ i _ => Sn - (intOf i).toNat)
          case atStart => exact ⟨0, by omega, rfl, hOT, Below.refl _ _⟩
          case round =>
            obtain ⟨k, hk, rfl, hO, hD⟩ := hrel
            by_cases hlt : k < Sn
            · obtain ⟨adx, ux, ex, d0, hux⟩ := kbb_at (rk_C hX) k (by rw [hlX.out]; exact hlt)
              obtain ⟨ady, uy, ey, d1, huy⟩ := kbb_at (rk_C hY) k (by rw [hlY.out]; exact hlt)
              subst ex
              subst ey
              rw [hatX.out k hlt] at hux
              rw [hatY.out k hlt] at huy
              obtain ⟨Bx, mx, cx, rfl⟩ : ∃ A m c, ux = .slice A m c := (rk_form hux).elim fun A h => h.elim fun c h => ⟨A, _, c, h⟩
              obtain ⟨By, my, cy, rfl⟩ : ∃ A m c, uy = .slice A m c := (rk_form huy).elim fun A h => h.elim fun c h => ⟨A, _, c, h⟩
              have hrl := Lib.hid (hrl0.out k)
              have hki : (k : Int) < (Sn : Int) := by omega
              have mk : (k : Int) * p.T = ((k * Tn : Nat) : Int) := by rw [eT.out, Int.natCast_mul]
              have hkT : k * Tn ≤ 60 * 12 := Nat.mul_le_mul (by omega) hTn
              obtain ⟨kT, ekT⟩ : ∃ kT, kT = k * Tn := ⟨_, rfl⟩
              have hst1 := Lib.hid (hstep.out t k)
              rw [← ekT] at mk hkT hst1
              replace ekT := Lib.hid ekT
              have ukT : IntKind.i64.wrap (kT : Int) = (kT : Int) := wrapI _ (by omega) (by omega)
              have htl' : t.length ≤ 140737488351232 := hT9.out
              have hst3 := Lib.hid (hst2.out k)
              rw [← ekT.out] at hst3
              go_wp2_with fail
              refine wp_region_tell [.v (.slice (some adx) Sn cX),.v (.int .i64 (k : Int)),.v (.pointer (some (adx.add k))),.v (.slice Bx mx cx),.v (.slice (some ady) Sn cY),.v (.int .i64 (k : Int)),.v (.pointer (some (ady.add k))),.v (.slice By my cy),.p (isB (dlt p a b k)),.p (isB (dlt p a b k))] [([],none),([],none),([(0,some 133),(1,some 134)],none),([(2,some 135)],none),([],none),([],none),([(4,some 137),(5,some 138)],none),([(6,some 139)],none),([(3,some 136),(7,some 140)],none),([(8,some 141)],none)] [(0,some 133),(1,some 134),(2,some 135),(3,some 136),(4,some 137),(5,some 138),(6,some 139),(7,some 140),(8,some 141),(9,some 21)] (by kernel_rfl) (by kernel_rfl) (by kernel_rfl) (by kernel_rfl) (by exact ⟨trivial,trivial,trivial,trivial,trivial,trivial,trivial,trivial,last_B _,last_B _,trivial⟩) ⟨?s0,?s1,?s2,?s3,?s4,?s5,?s6,?s7,?s8,?s9,trivial⟩ ?hQ
              case s0 | s1 | s2 | s3 | s4 | s5 | s6 | s7 =>
                intro W hB K hK
                simp only [tellK, Act.put, List.setIfInBounds_toArray, List.set_cons_zero, List.set_cons_succ] at hK ⊢
                refine tell_do rfl ?_
                have b0 := pw_cell_below (bt_ hD hB) d0; have b1 := pw_cell_below (bt_ hD hB) d1
                go_simp
                exact hK _ (Below.refl _ _)
              case s8 =>
                intro W hB K hK
                simp only [tellK, Act.put, List.setIfInBounds_toArray, List.set_cons_zero, List.set_cons_succ] at hK ⊢
                refine tell_do rfl ?_
                have b0 := pw_cell_below (bt_ hD hB) d0; have b1 := pw_cell_below (bt_ hD hB) d1
                go_simp
                go_at_call 127; refine (rXor_c _ _ (F.rowOf p.L.toNat a k) (F.rowOf p.L.toNat b k) _ (hux.below (bt_ hD hB)) (huy.below (bt_ hD hB)) hrl.out).mono ?_; rintro e w6 ⟨z, rfl, hZ, h6⟩; exact hK _ _ hZ.rk h6
              case s9 =>
                intro W hB v8 h8 K hK
                replace h8 : Rb W v8 (dlt p a b k) := h8
                simp only [tellK, Act.put, List.setIfInBounds_toArray, List.set_cons_zero, List.set_cons_succ] at hK ⊢
                refine tell_do rfl ?_
                have b0 := pw_cell_below (bt_ hD hB) d0; have b1 := pw_cell_below (bt_ hD hB) d1
                go_simp
                exact hK _ _ h8 (Below.refl _ _)
              case hQ =>
                intro W hB v8 h8 v9 h9
                replace h8 : Rb W v8 (dlt p a b k) := h8
                replace h9 : Rb W v9 (dlt p a b k) := h9
                simp only [tellGo, Act.put, List.setIfInBounds_toArray, List.set_cons_zero, List.set_cons_succ]
                have hD1 := bt_ hD hB
                have hO1 := hO.below hB
                clear h8
                have hF1 := hF.below hD1
                have hw1 := hw.below hD1
                obtain ⟨c0, c1, c2, c3, c4, c5⟩ := cells6 (HP.below hD1)
                go_wp2_with fail
                refine (mShift_ok bF p h hK.out _ _ (dlt p a b k) zs _ hF1 h9 hw1 (hmz.out k)).mono ?_
                rintro e w5 ⟨zS, rfl, sS, h5⟩
                replace sS := sS.rk
                have hD2 := bt_ hD1 h5
                clear c0 c1 c2 c3 c4 c5
                have hO6 := hO1.below h5
                have hd6 := h9.below h5
                have hF6 := hF.below hD2
                have HP6 := HP.below hD2
                have hDw := hD2
                clear h9 hF1 hw1 hO1 hD1 hB
                obtain ⟨c0, c1, c2, c3, c4, c5⟩ := cells6 HP6
                go_wp2_with fail
                go_region_held3 (fun w' => w'.cell? ⟨w.heap.size, 0, none⟩ = some (.int .i64 p.N) ∧ w'.cell? ⟨w.heap.size, 1, none⟩ = some (.int .i64 p.T) ∧ w'.cell? ⟨w.heap.size, 2, none⟩ = some (.int .i64 p.L) ∧ w'.cell? ⟨w.heap.size, 3, none⟩ = some (.int .i64 p.W) ∧ w'.cell? ⟨w.heap.size, 4, none⟩ = some (.int .i64 p.S) ∧ w'.cell? ⟨w.heap.size, 5, none⟩ = some (.int .i64 p.R))
                  (go_keep)
                  (first
                  | (go_at_call 140; refine (mDeal_c bF p h _ _ (dlt p a b k) (shOf p (dlt p a b k) zs) _ (by first | exact hF6 | exact hF6.drew) (by first | exact hd6 | exact hd6.drew | exact hd6.drewN _) (by first | exact sS | exact sS.drew | exact sS.drewN _) (hshl.out k)).mono ?_; rintro e w6 ⟨zM, rfl, sM, h6⟩; replace sM := sM.rk; (repeat (first | replace h6 := ba h6 | replace h6 := buN h6 | replace h6 := bu h6)); replace hDw := bt_ hDw h6; replace hO6 := hO6.below h6; replace HP6 := HP6.below h6; clear c0 c1 c2 c3 c4 c5; obtain ⟨c0, c1, c2, c3, c4, c5⟩ := cells6 HP6)
                  | (go_at_call 143; refine (mApply_c _ _ (hidT p a b zs OT k) _ _ _ (by first | exact hO6 | exact hO6.drew | exact hO6.drewN _) (by first | exact sM | exact sM.drew | exact sM.drewN _) (by rw [hidT_len, ← hOTe.out, hidT_len]; exact htl')).mono ?_; rintro e w7 ⟨zO, rfl, sO, h7⟩; rw [hst3.out] at sO; replace sO := sO.rk; (repeat (first | replace h7 := ba h7 | replace h7 := buN h7 | replace h7 := bu h7)); replace hDw := bt_ hDw h7; replace HP6 := HP6.below h7; clear c0 c1 c2 c3 c4 c5; obtain ⟨c0, c1, c2, c3, c4, c5⟩ := cells6 HP6)
                  | fail)
                go_wp2
                exact ⟨⟨k + 1, by omega, by go_num, sO, hDw⟩, by simp [intOf]; try omega⟩
            · obtain rfl : k = Sn := by omega
              rw [hbk2.out] at hO
              replace HP := HP.below hD
              replace ha := ha.below hD
              replace hb := hb.below hD
              replace ht := ht.below hD
              replace hOT := hOT.below hD
              replace hw := hw.below hD
              replace hF := hF.below hD
              replace hB9 := bt_ hB9 hD
              clear hD hX hY
              generalize wr = wb3 at *
              obtain ⟨Ab2, cb2, rfl⟩ := rk_form hO
              obtain ⟨c0, c1, c2, c3, c4, c5⟩ := cells6 HP
              go_wp2_with fail
              refine (dDeal_ok bF p h _ _ a t _ hF ha ht hl (by rw [hSn.out]; exact hla.out)).mono ?_
              rintro e w4 ⟨g1, vs1, rfl, hR1, h4⟩
              replace HP := HP.below h4
              replace hb := hb.below h4
              replace ht := ht.below h4
              replace hOT := hOT.below h4
              replace hO := hO.below h4
              replace hw := hw.below h4
              replace hF := hF.below h4
              replace hB9 := bt_ hB9 h4
              clear h4 c0 c1 c2 c3 c4 c5 ha
              obtain ⟨c0, c1, c2, c3, c4, c5⟩ := cells6 HP
              go_wp2_with fail
              refine (dDeal_ok bF p h _ _ b OT _ hF hb hOT hlb hlb2.out).mono ?_
              rintro e w5 ⟨g2, vs2, rfl, hR2, h5⟩
              replace HP := HP.below h5
              replace ht := ht.below h5
              replace hO := hO.below h5
              replace hw := hw.below h5
              replace hR1 := hR1.below h5
              replace hB9 := bt_ hB9 h5
              clear h5 c0 c1 c2 c3 c4 c5 hb hOT hF
              generalize hNN : p.N.toNat = N at *
              replace hNN := Lib.hid hNN
              have hN12 : N ≤ 12 := by omega
              replace eN := Lib.hid eN
              obtain ⟨c0, c1, c2, c3, c4, c5⟩ := cells6 HP
              go_wp2_with fail
              refine (rSame_c _ _ t t _ hO ht).mono ?_
              rintro e w6 ⟨rfl, h6⟩
              rw [decide_eq_true (rfl : t = t)]
              replace h6 := h6.below
              replace hw := hw.below h6
              replace hR1 := hR1.below h6
              replace hR2 := hR2.below h6
              replace hB9 := bt_ hB9 h6
              clear h6 c0 c1 c2 c3 c4 c5 HP ht hO
              go_wp2_with fail
              go_loopw [29, 213] (fun _ i wr => ∃ k : Nat, k ≤ zs.length ∧ i = .int .i64 k ∧ Below w6.heap.size w6 wr) (fun _ i _ => zs.length - (intOf i).toNat)
              case atStart => exact ⟨0, by omega, rfl, Below.refl _ _⟩
              case round =>
                obtain ⟨k, hk, rfl, hD⟩ := hrel
                by_cases hlt : k < zs.length
                · obtain ⟨ad, e1, d9⟩ := ki_at (ri_C hw) k hlt
                  subst e1
                  replace d9 := pw_cell_below hD d9
                  have hki : (k : Int) < (zs.length : Int) := by omega
                  have hmem : zs.getD k 0 ∈ zs := by rw [List.getD_eq_getElem?_getD, List.getElem?_eq_getElem hlt]; exact List.getElem_mem hlt
                  have hin := hzs.out.2.2.2 _ hmem
                  have hsame := hhid.out _ hmem
                  generalize zs.getD k 0 = i at *
                  obtain ⟨m, hm⟩ : ∃ m : Nat, i - 1 = (m : Int) := ⟨(i - 1).toNat, by omega⟩
                  have um : IntKind.i64.wrap (i - 1) = (m : Int) := by rw [hm]; exact wrapI _ (by omega) (by omega)
                  have hmN : m < N := by have := eN.out; omega
                  have hmi : (m : Int) < (N : Int) := by omega
                  rw [hm, Int.toNat_natCast] at hsame
                  have hq1 := (hR1.own m hmN).rk
                  have hq2 := (hR2.own m hmN).rk
                  rw [← hsame] at hq2
                  clear hm hmem hin hsame
                  generalize shs p a t m = D at *
                  generalize hv1 : vs1 m = q1 at *
                  generalize hv2 : vs2 m = q2 at *
                  replace hv1 := Lib.hid hv1
                  replace hv2 := Lib.hid hv2
                  go_wp2_with fail
                  refine wp_region_tell [.v (.slice (some ⟨g1,0,none⟩) N N),.v (.int .i64 i),.v (.int .i64 (m : Int)),.v (.pointer (some ⟨g1,m,none⟩)),.v (q1),.v (.slice (some ⟨g2,0,none⟩) N N),.v (.int .i64 i),.v (.int .i64 (m : Int)),.v (.pointer (some ⟨g2,m,none⟩)),.v (q2),.v (.bool true),.v (.bool false)] [([],none),([],none),([(1,some 218)],none),([(0,some 217),(2,some 219)],none),([(3,some 220)],none),([],none),([],none),([(6,some 223)],none),([(5,some 222),(7,some 224)],none),([(8,some 225)],none),([(4,some 221),(9,some 226)],none),([(10,some 227)],none)] [(0,some 217),(1,some 218),(2,some 219),(3,some 220),(4,some 221),(5,some 222),(6,some 223),(7,some 224),(8,some 225),(9,some 226),(10,some 227),(11,some 228)] (by kernel_rfl) (by kernel_rfl) (by kernel_rfl) (by kernel_rfl) (by exact ⟨trivial,trivial,trivial,trivial,trivial,trivial,trivial,trivial,trivial,trivial,trivial,trivial,trivial⟩) ⟨?s0,?s1,?s2,?s3,?s4,?s5,?s6,?s7,?s8,?s9,?s10,?s11,trivial⟩ ?hQ
                  case s0 | s1 | s2 | s3 | s4 | s5 | s6 | s7 | s8 | s9 | s11 =>
                    intro W hB K hK
                    simp only [tellK, Act.put, List.setIfInBounds_toArray, List.set_cons_zero, List.set_cons_succ] at hK ⊢
                    refine tell_do rfl ?_
                    have z1 := (hR1.below (bt_ hD hB)).cell m hmN; have z2 := (hR2.below (bt_ hD hB)).cell m hmN; rw [hv1.out] at z1; rw [hv2.out] at z2
                    go_simp
                    exact hK _ (Below.refl _ _)
                  case s10 =>
                    intro W hB K hK
                    simp only [tellK, Act.put, List.setIfInBounds_toArray, List.set_cons_zero, List.set_cons_succ] at hK ⊢
                    refine tell_do rfl ?_
                    have z1 := (hR1.below (bt_ hD hB)).cell m hmN; have z2 := (hR2.below (bt_ hD hB)).cell m hmN; rw [hv1.out] at z1; rw [hv2.out] at z2
                    go_simp
                    go_at_call 60; refine (rSame_c _ _ D D _ (hq1.below (bt_ hD hB)) (hq2.below (bt_ hD hB))).mono ?_; rintro e w6 ⟨rfl, h6⟩; rw [decide_eq_true (rfl : D = D)]; exact hK _ h6.below
                  case hQ =>
                    intro W hB
                    simp only [tellGo, sayAt, List.getD_cons_zero, List.getD_cons_succ, Act.put, List.setIfInBounds_toArray, List.set_cons_zero, List.set_cons_succ]
                    have hD1 := bt_ hD hB
                    go_wp2
                    exact ⟨⟨k + 1, by omega, by go_num, hD1⟩, by simp [intOf]; try omega⟩
                · obtain rfl : k = zs.length := by omega
                  have hB := bt_ hB9 hD
                  go_wp2_with fail
                  refine (alive14 _).mono ?_
                  rintro e w9 ⟨rfl, h⟩
                  have hB := bt_ hB h
                  clear h
                  go_wp2
                  go_ret
                  exact ⟨rfl, hB⟩
set_option maxRecDepth 100000 in
theorem MaskHides_walk (w : World) (N : Int) (hN : -9223372036854775808 ≤ N ∧ N ≤ 9223372036854775807) (T : Int) (hT : -9223372036854775808 ≤ T ∧ T ≤ 9223372036854775807) (L : Int) (hL : -9223372036854775808 ≤ L ∧ L ≤ 9223372036854775807) (W : Int) (hW : -9223372036854775808 ≤ W ∧ W ≤ 9223372036854775807) (S : Int) (hS : -9223372036854775808 ≤ S ∧ S ≤ 9223372036854775807) (R : Int) (hR : -9223372036854775808 ≤ R ∧ R ≤ 9223372036854775807) (va : Value) (a : List F) (ha : Rb w va a) (b9a : a.length ≤ 140737488351232) (vb : Value) (b : List F) (hb : Rb w vb b) (b9b : b.length ≤ 140737488351232) (vt : Value) (t : List F) (ht : Rb w vt t) (b9t : t.length ≤ 140737488351232) (vw : Value) (zs : List Int) (hw : Ri w vw zs) (hq : ∀ y ∈ zs, -9223372036854775808 ≤ y ∧ y ≤ 9223372036854775807) (b9z : zs.length ≤ 17592186043904) :
   Calls Try.prog 33 #[.agg #[.int .i64 N, .int .i64 T, .int .i64 L, .int .i64 W, .int .i64 S, .int .i64 R], .agg #[va, vb, vt], vw] w fun e w' => e = .returned (.bool true) ∧ Below w.heap.size w w' := by
  by_cases hLt : Lite ⟨N, T, L, W, S, R⟩
  · have hi : Pl.In ⟨N, T, L, W, S, R⟩ := ⟨hN, hT, hL, hW, hS, hR⟩
    by_cases h : (Pl.mk N T L W S R).Ok
    · by_cases hl : a.length ≤ 60
      · by_cases hab : a.length = b.length
        · obtain ⟨n, hn⟩ : ∃ n : Nat, (Pl.mk N T L W S R).T.toNat * F.nS (Pl.mk N T L W S R).L.toNat a.length = n := ⟨_, rfl⟩
          by_cases h2 : n ≤ t.length
          · by_cases hm : maE ⟨N, T, L, W, S, R⟩ (Pl.mk N T L W S R).L.toNat zs = 0
            · exact maskHides_6 ⟨N, T, L, W, S, R⟩ va vb vt vw a b t zs w ha hb ht hw hLt h hl hab n hn h2 hm b9t
            · exact maskHides_5 ⟨N, T, L, W, S, R⟩ va vb vt vw a b t zs w ha hb ht hw hLt h hl hab n hn h2 hm
          · exact maskHides_4 ⟨N, T, L, W, S, R⟩ va vb vt vw a b t zs w ha hb ht hw hLt h hl hab n hn h2
        · exact maskHides_3 ⟨N, T, L, W, S, R⟩ va vb vt vw a b t zs w ha hb ht hw hLt h hl hab
      · exact maskHides_2 ⟨N, T, L, W, S, R⟩ va vb vt vw a b t zs w ha hb ht hw hLt h hl
    · exact maskHides_1 ⟨N, T, L, W, S, R⟩ va vb vt vw a b t zs w ha hb ht hw hi hLt h
  · exact maskHides_0 ⟨N, T, L, W, S, R⟩ va vb vt vw a b t zs w ha hb ht hw hLt
end Go.Proofs.Ytijeabhfddaoaaa
