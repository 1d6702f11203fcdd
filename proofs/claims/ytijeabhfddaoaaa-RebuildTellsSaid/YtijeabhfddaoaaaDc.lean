/- The walk of the closure of deal.some: a stripe's byte for each custodian. -/
import Derived.Test.YtijeabhfddaoaaaDb
import Derived.Test.YtijeabhfddaoaaaFt
namespace Go.Proofs.Ytijeabhfddaoaaa
set_option linter.unusedVariables false
open Go.RowKit Go.Proofs.YtijeabhfddaoaaaW.PrintWords Go.Proofs.Sh

/-- What the closure has caught (but the rows that it writes). -/
structure SEnv (w : World) (bw bv bt bp g fb T : Nat) (wv tv : Value) (sec : List F) (who : List Int) (tape : List F) : Prop where
  wh : w.cell? ⟨bw, 0, none⟩ = some wv
  val : w.cell? ⟨bv, 0, none⟩ = some (.func (.func 208) #[.pointer (some ⟨g, 0, none⟩)] #[])
  tp : w.cell? ⟨bt, 0, none⟩ = some tv
  p : w.cell? ⟨bp, 1, none⟩ = some (.int .i64 (T : Int))
  dl : Dlr w g fb sec (who.map point)
  hw : Ri w wv who
  ht : Rb w tv tape
theorem SEnv.below {w w1 : World} {bw bv bt bp g fb T : Nat} {wv tv : Value} {sec : List F} {who : List Int} {tape : List F} (h : SEnv w bw bv bt bp g fb T wv tv sec who tape) (hb : Below w.heap.size w w1) : SEnv w1 bw bv bt bp g fb T wv tv sec who tape :=
  ⟨pw_cell_below hb h.wh, pw_cell_below hb h.val, pw_cell_below hb h.tp, pw_cell_below hb h.p, h.dl.below hb, h.hw.below hb, h.ht.below hb⟩
/-- A stripe's polynomial at x, as the dealer tells it. -/
def dval (sec row t : List F) (x : F) : F := dot (F.wts sec x) row + F.ev x (F.rt sec) * F.ev x t
set_option maxRecDepth 100000 in
set_option maxHeartbeats 3200000 in
theorem dEach_c (w9 w : World) (bw bo bv bt bp g g2 fb T : Nat) (wv tv v : Value) (sec : List F) (who : List Int) (tape row : List F) (vs : Nat → Value) (ls : Nat → List F) (j : Nat)
   (hB : Below w9.heap.size w9 w) (hE : SEnv w9 bw bv bt bp g fb T wv tv sec who tape) (hO : Blk w bo #[.slice (some ⟨g2, 0, none⟩) who.length who.length] 66) (hbo : w9.heap.size ≤ bo) (hR : Rws w9 w g2 who.length vs ls) (hv : Rb w9 v row)
   (hwl : who.length ≤ 1000) (hT : 1 ≤ T) (hT2 : T ≤ 256) (hj : j < 240) (hlen : (j + 1) * T ≤ tape.length) (hll : ∀ k, (ls k).length ≤ 1000) :
   Calls Try.prog 209 #[.int .i64 (j : Int), v, .pointer (some ⟨bw, 0, none⟩), .pointer (some ⟨bo, 0, none⟩), .pointer (some ⟨bv, 0, none⟩), .pointer (some ⟨bt, 0, none⟩), .pointer (some ⟨bp, 0, none⟩)] w fun e w' => e = .returned (.tuple #[]) ∧
     ∃ vs', Rws w9 w' g2 who.length vs' (fun k => ls k ++ [dval sec row (F.tp T tape j) (point (who.getD k 0))]) ∧ Blk w' bo #[.slice (some ⟨g2, 0, none⟩) who.length who.length] 66 ∧ Below w9.heap.size w9 w' := by
  obtain ⟨Aw, cw, rfl⟩ := rk_form hE.hw
  obtain ⟨At, ct, rfl⟩ := rk_form hE.ht
  obtain ⟨Ar, cr, rfl⟩ := rk_form hv
  replace hE := Lib.hid hE
  replace hll := Lib.hid hll
  have hct := rk_cap hE.out.ht
  have hlt0 := kb_len (rk_C hE.out.ht)
  have hjT : j * T ≤ 240 * 256 := Nat.mul_le_mul (by omega) hT2
  have hjT2 : (j + 1) * T = j * T + T := by rw [Nat.add_mul, Nat.one_mul]
  have m1 : (j : Int) * (T : Int) = ((j * T : Nat) : Int) := (Int.natCast_mul ..).symm
  have m2 : ((j : Int) + 1) * (T : Int) = ((j * T : Nat) : Int) + (T : Int) := by rw [Int.add_mul, Int.one_mul, m1]
  obtain ⟨adt, rfl, _⟩ := kb_at (rk_C hE.out.ht) (j * T) (by omega)
  have hmid := rb_mid hE.out.ht (j * T) T (by omega) (by omega)
  have hT2' : Hid ((tape.drop (j * T)).take T = F.tp T tape j) := Lib.hid rfl
  rw [hT2'.out] at hmid
  have hdv : Hid (∀ x, dval sec row (F.tp T tape j) x = dot (F.wts sec x) row + F.ev x (F.rt sec) * F.ev x (F.tp T tape j)) := Lib.hid (fun x => rfl)
  generalize hlo' : j * T = lo at *
  replace hlo' := Lib.hid hlo'
  have n1 : IntKind.i64.wrap (lo : Int) = lo := wrapI _ (by omega) (by omega)
  have n2 : IntKind.i64.wrap ((lo : Int) + T) = lo + T := wrapI _ (by omega) (by omega)
  have n3 : IntKind.i64.wrap ((j : Int) + 1) = j + 1 := wrapI _ (by omega) (by omega)
  have s1 : (0 : Int) ≤ (lo : Int) + T := by omega
  have s2 : (lo : Int) + T ≤ (ct : Int) := by omega
  have s3 : ((lo : Int) + T).toNat = lo + T := by omega
  have s4 : ¬ ct = lo := by omega
  generalize F.tp T tape j = tk at *
  obtain ⟨k1, k2, k3, k4, _, _, _⟩ := hE.out.below hB
  go_enter Try.func209, Try.ntmps209
  go_wp2_with fail
  go_loopw [9, 10, 13] (fun _ _ i wr => ∃ (k : Nat) (vs' : Nat → Value), k ≤ who.length ∧ i = .int .i64 k ∧ Rws w9 wr g2 who.length vs' (fun q => if q < k then ls q ++ [dval sec row tk (point (who.getD q 0))] else ls q) ∧ Blk wr bo #[.slice (some ⟨g2, 0, none⟩) who.length who.length] 66 ∧ Below w9.heap.size w9 wr) (fun _ _ i _ => who.length - (intOf i).toNat)
  case atStart => exact ⟨0, vs, by omega, rfl, hR.congr (fun q _ => by rw [if_neg (Nat.not_lt_zero q)]), hO, hB⟩
  case round =>
    clear hR hO hB k1 k2 k3 k4
    obtain ⟨k, vs', hk, rfl, hR, hO, hB⟩ := hrel
    by_cases hlt : k < who.length
    · obtain ⟨k1, k2, k3, k4, hD, hw, ht⟩ := hE.out.below hB
      obtain ⟨ad, e1, d0⟩ := ki_at (ri_C hw) k hlt
      subst e1
      have hOk : Ob w9 wr (vs' k) (ls k) := by have := hR.own k hlt; simpa using this
      have hpt : Hid ((who.map point).getD k 0 = point (who.getD k 0)) := Lib.hid (map_getD who point 0 0 k hlt)
      have hll2 : Hid ((ls k).length ≤ 1000) := Lib.hid (hll.out k)
      have hval := fun W h1 h2 h3 => Lib.hid (dValue_c g fb sec (who.map point) (.slice Ar row.length cr) (.slice (some (adt.add lo)) T (ct - lo)) row tk k (by rw [List.length_map]; exact hlt) (point (who.getD k 0)) W h1 h2 h3)
      rw [hpt.out, ← hdv.out] at hval
      have hR0 := Lib.hid hR
      have q0 := hO.one
      have hne2 := hR.ne_blk hO (by decide)
      have hbs2 := hR.base
      have q1 := hR.cell k hlt
      have hki : (k : Int) < (who.length : Int) := by omega
      have hDv := hv.below hB
      have hmid1 := hmid.below hB
      generalize hi : who.getD k 0 = i at *
      generalize hy : dval sec row tk (point i) = y at *
      generalize hvk : vs' k = vk at *
      replace hi := Lib.hid hi
      replace hy := Lib.hid hy
      replace hvk := Lib.hid hvk
      have hcg : Hid (∀ q, q < who.length → (if q = k then ls k ++ [y] else if q < k then ls q ++ [dval sec row tk (point (who.getD q 0))] else ls q) = if q < k + 1 then ls q ++ [dval sec row tk (point (who.getD q 0))] else ls q) := Lib.hid (fun q hq => by
        by_cases e1 : q = k
        · subst e1
          rw [if_pos rfl, if_pos (Nat.lt_succ_self q), hi.out, hy.out]
        · rw [if_neg e1]
          by_cases e2 : q < k
          · rw [if_pos e2, if_pos (by omega)]
          · rw [if_neg e2, if_neg (by omega)])
      have hB1 := hB
      clear hB q0 q1 k1 k2 k3 k4 hD hw ht hR
      go_wp2_with fail
      refine wp_region_two 24 [.v (.slice (some ⟨g2, 0, none⟩) who.length who.length), .v (.int .i64 (k : Int)), .v (.slice (some ⟨g2, 0, none⟩) who.length who.length), .v (.int .i64 (k : Int)), .v (.pointer (some ⟨g2, k, none⟩)), .v (vk), .v (.func (.func 208) #[.pointer (some ⟨g, 0, none⟩)] #[]), .v (.slice Ar row.length cr), .v (.slice (some adt) tape.length ct), .v (.int .i64 (j : Int)), .v (.pointer (some ⟨bp, 1, none⟩)), .v (.int .i64 (T : Int)), .v (.int .i64 (lo : Int)), .v (.int .i64 (j : Int)), .v (.int .i64 ((j : Int) + 1)), .v (.pointer (some ⟨bp, 1, none⟩)), .v (.int .i64 (T : Int)), .v (.int .i64 ((lo : Int) + (T : Int))), .v (.slice (some (adt.add lo)) T (ct - lo)), .v (.int .i64 (k : Int)), .v (.int .i64 i), .v (.int .u8 ((point i).n : Int)), .v (.int .u8 (y.n : Int)), .p (isB [y]), .p (fun _ _ => True), .v (.pointer (some ⟨g2, k, none⟩)), .p (fun _ _ => True)] [([], none), ([], none), ([], none), ([], none), ([(2, some 20), (3, some 21)], none), ([(4, some 22)], none), ([], none), ([], none), ([], none), ([], none), ([], none), ([(10, some 28)], none), ([(9, some 27), (11, some 29)], none), ([], none), ([(13, some 31)], none), ([], none), ([(15, some 33)], none), ([(14, some 32), (16, some 34)], none), ([(8, some 26), (12, some 30), (17, some 35)], none), ([], none), ([], none), ([(20, some 38)], none), ([(6, some 24), (7, some 25), (18, some 36), (19, some 37), (21, some 39)], none), ([(22, some 40)], none), ([(5, some 23), (23, some 41)], none), ([(0, some 18), (1, some 19)], none), ([(24, some 42), (25, some 43)], none)] [(0, some 18), (1, some 19), (2, some 20), (3, some 21), (4, some 22), (5, some 23), (6, some 24), (7, some 25), (8, some 26), (9, some 27), (10, some 28), (11, some 29), (12, some 30), (13, some 31), (14, some 32), (15, some 33), (16, some 34), (17, some 35), (18, some 36), (19, some 37), (20, some 38), (21, some 39), (22, some 40), (23, some 41), (24, some 42), (25, some 43), (26, none)] (fun _ _ => True) (fun v W => ∃ A m c Wp, v = .slice A m c ∧ Rws w9 Wp g2 who.length vs' (fun q => if q < k then ls q ++ [dval sec row tk (point (who.getD q 0))] else ls q) ∧ Ob w9 W v (ls k ++ [y]) ∧ Wp.grownBy W vk.ownBlock ∧ (v.ownBlock = vk.ownBlock ∨ ∃ b, v.ownBlock = some b ∧ Wp.heap.size ≤ b) ∧ Blk W bo #[.slice (some ⟨g2, 0, none⟩) who.length who.length] 66 ∧ Below w9.heap.size w9 W) (fun W => (∃ vs'', Rws w9 W g2 who.length vs'' (fun q => if q < k + 1 then ls q ++ [dval sec row tk (point (who.getD q 0))] else ls q)) ∧ Blk W bo #[.slice (some ⟨g2, 0, none⟩) who.length who.length] 66 ∧ Below w9.heap.size w9 W) (by kernel_rfl) (by kernel_rfl) (by kernel_rfl) (by kernel_rfl) (by kernel_rfl) (by kernel_rfl) (by exact ⟨trivial, trivial, trivial, trivial, trivial, trivial, trivial, trivial, trivial, trivial, trivial, trivial, trivial, trivial, trivial, trivial, trivial, trivial, trivial, trivial, trivial, trivial, trivial, last_B _, (fun _ _ _ _ _ => trivial), trivial, (fun _ _ _ _ _ => trivial), trivial⟩) (show 24 < 27 by decide) rfl rfl ⟨.inl ⟨by decide, ?s0⟩, .inr ⟨_, rfl, ?l0⟩, .inl ⟨by decide, ?s1⟩, .inr ⟨_, rfl, ?l1⟩, .inl ⟨by decide, ?s2⟩, .inl (by decide), .inl ⟨by decide, ?s3⟩, .inl (by decide), .inl ⟨by decide, ?s4⟩, .inl (by decide), .inl ⟨by decide, ?s5⟩, .inl (by decide), .inl ⟨by decide, ?s6⟩, .inl (by decide), .inl ⟨by decide, ?s7⟩, .inl (by decide), .inl ⟨by decide, ?s8⟩, .inl (by decide), .inl ⟨by decide, ?s9⟩, .inl (by decide), .inl ⟨by decide, ?s10⟩, .inl (by decide), .inl ⟨by decide, ?s11⟩, .inl (by decide), .inl ⟨by decide, ?s12⟩, .inl (by decide), .inl ⟨by decide, ?s13⟩, .inl (by decide), .inl ⟨by decide, ?s14⟩, .inl (by decide), .inl ⟨by decide, ?s15⟩, .inl (by decide), .inl ⟨by decide, ?s16⟩, .inl (by decide), .inl ⟨by decide, ?s17⟩, .inl (by decide), .inl ⟨by decide, ?s18⟩, .inl (by decide), .inl ⟨by decide, ?s19⟩, .inl (by decide), .inl ⟨by decide, ?s20⟩, .inl (by decide), .inl ⟨by decide, ?s21⟩, .inl (by decide), .inl ⟨by decide, ?s22⟩, .inl (by decide), .inl ⟨by decide, ?s23⟩, .inl (by decide), .inr (.inl ⟨rfl, ?ap⟩), .inl (by decide), .inl ⟨by decide, ?s25⟩, .inr ⟨_, rfl, ?l25⟩, .inr (.inr ⟨rfl, ?sto⟩), .inl (by decide), trivial⟩ ?hQ
      case s0 =>
        intro W hB K hK
        simp only [tellK, Act.put, List.setIfInBounds_toArray, List.set_cons_zero, List.set_cons_succ] at hK ⊢
        refine tell_do rfl ?_
        have q0 := (hO.below hB).one; have q1 := (hR0.out.below hB).cell k hlt; rw [hvk.out] at q1; obtain ⟨k1, k2, k3, k4, hD, hw, ht⟩ := hE.out.below (bt_ hB1 hB)
        go_simp
        exact hK _ (Below.refl _ _)
      case s1 =>
        intro W hB K hK
        simp only [tellK, Act.put, List.setIfInBounds_toArray, List.set_cons_zero, List.set_cons_succ] at hK ⊢
        refine tell_do rfl ?_
        have q0 := (hO.below hB).one; have q1 := (hR0.out.below hB).cell k hlt; rw [hvk.out] at q1; obtain ⟨k1, k2, k3, k4, hD, hw, ht⟩ := hE.out.below (bt_ hB1 hB)
        go_simp
        exact hK _ (Below.refl _ _)
      case s2 =>
        intro W hB K hK
        simp only [tellK, Act.put, List.setIfInBounds_toArray, List.set_cons_zero, List.set_cons_succ] at hK ⊢
        refine tell_do rfl ?_
        have q0 := (hO.below hB).one; have q1 := (hR0.out.below hB).cell k hlt; rw [hvk.out] at q1; obtain ⟨k1, k2, k3, k4, hD, hw, ht⟩ := hE.out.below (bt_ hB1 hB)
        go_simp
        exact hK _ (Below.refl _ _)
      case s3 =>
        intro W hB K hK
        simp only [tellK, Act.put, List.setIfInBounds_toArray, List.set_cons_zero, List.set_cons_succ] at hK ⊢
        refine tell_do rfl ?_
        have q0 := (hO.below hB).one; have q1 := (hR0.out.below hB).cell k hlt; rw [hvk.out] at q1; obtain ⟨k1, k2, k3, k4, hD, hw, ht⟩ := hE.out.below (bt_ hB1 hB)
        go_simp
        exact hK _ (Below.refl _ _)
      case s4 =>
        intro W hB K hK
        simp only [tellK, Act.put, List.setIfInBounds_toArray, List.set_cons_zero, List.set_cons_succ] at hK ⊢
        refine tell_do rfl ?_
        have q0 := (hO.below hB).one; have q1 := (hR0.out.below hB).cell k hlt; rw [hvk.out] at q1; obtain ⟨k1, k2, k3, k4, hD, hw, ht⟩ := hE.out.below (bt_ hB1 hB)
        go_simp
        exact hK _ (Below.refl _ _)
      case s5 =>
        intro W hB K hK
        simp only [tellK, Act.put, List.setIfInBounds_toArray, List.set_cons_zero, List.set_cons_succ] at hK ⊢
        refine tell_do rfl ?_
        have q0 := (hO.below hB).one; have q1 := (hR0.out.below hB).cell k hlt; rw [hvk.out] at q1; obtain ⟨k1, k2, k3, k4, hD, hw, ht⟩ := hE.out.below (bt_ hB1 hB)
        go_simp
        exact hK _ (Below.refl _ _)
      case s6 =>
        intro W hB K hK
        simp only [tellK, Act.put, List.setIfInBounds_toArray, List.set_cons_zero, List.set_cons_succ] at hK ⊢
        refine tell_do rfl ?_
        have q0 := (hO.below hB).one; have q1 := (hR0.out.below hB).cell k hlt; rw [hvk.out] at q1; obtain ⟨k1, k2, k3, k4, hD, hw, ht⟩ := hE.out.below (bt_ hB1 hB)
        go_simp
        exact hK _ (Below.refl _ _)
      case s7 =>
        intro W hB K hK
        simp only [tellK, Act.put, List.setIfInBounds_toArray, List.set_cons_zero, List.set_cons_succ] at hK ⊢
        refine tell_do rfl ?_
        have q0 := (hO.below hB).one; have q1 := (hR0.out.below hB).cell k hlt; rw [hvk.out] at q1; obtain ⟨k1, k2, k3, k4, hD, hw, ht⟩ := hE.out.below (bt_ hB1 hB)
        go_simp
        exact hK _ (Below.refl _ _)
      case s8 =>
        intro W hB K hK
        simp only [tellK, Act.put, List.setIfInBounds_toArray, List.set_cons_zero, List.set_cons_succ] at hK ⊢
        refine tell_do rfl ?_
        have q0 := (hO.below hB).one; have q1 := (hR0.out.below hB).cell k hlt; rw [hvk.out] at q1; obtain ⟨k1, k2, k3, k4, hD, hw, ht⟩ := hE.out.below (bt_ hB1 hB)
        go_simp
        exact hK _ (Below.refl _ _)
      case s9 =>
        intro W hB K hK
        simp only [tellK, Act.put, List.setIfInBounds_toArray, List.set_cons_zero, List.set_cons_succ] at hK ⊢
        refine tell_do rfl ?_
        have q0 := (hO.below hB).one; have q1 := (hR0.out.below hB).cell k hlt; rw [hvk.out] at q1; obtain ⟨k1, k2, k3, k4, hD, hw, ht⟩ := hE.out.below (bt_ hB1 hB)
        go_simp
        exact hK _ (Below.refl _ _)
      case s10 =>
        intro W hB K hK
        simp only [tellK, Act.put, List.setIfInBounds_toArray, List.set_cons_zero, List.set_cons_succ] at hK ⊢
        refine tell_do rfl ?_
        have q0 := (hO.below hB).one; have q1 := (hR0.out.below hB).cell k hlt; rw [hvk.out] at q1; obtain ⟨k1, k2, k3, k4, hD, hw, ht⟩ := hE.out.below (bt_ hB1 hB)
        go_simp
        exact hK _ (Below.refl _ _)
      case s11 =>
        intro W hB K hK
        simp only [tellK, Act.put, List.setIfInBounds_toArray, List.set_cons_zero, List.set_cons_succ] at hK ⊢
        refine tell_do rfl ?_
        have q0 := (hO.below hB).one; have q1 := (hR0.out.below hB).cell k hlt; rw [hvk.out] at q1; obtain ⟨k1, k2, k3, k4, hD, hw, ht⟩ := hE.out.below (bt_ hB1 hB)
        go_simp
        exact hK _ (Below.refl _ _)
      case s12 =>
        intro W hB K hK
        simp only [tellK, Act.put, List.setIfInBounds_toArray, List.set_cons_zero, List.set_cons_succ] at hK ⊢
        refine tell_do rfl ?_
        have q0 := (hO.below hB).one; have q1 := (hR0.out.below hB).cell k hlt; rw [hvk.out] at q1; obtain ⟨k1, k2, k3, k4, hD, hw, ht⟩ := hE.out.below (bt_ hB1 hB)
        go_simp
        exact hK _ (Below.refl _ _)
      case s13 =>
        intro W hB K hK
        simp only [tellK, Act.put, List.setIfInBounds_toArray, List.set_cons_zero, List.set_cons_succ] at hK ⊢
        refine tell_do rfl ?_
        have q0 := (hO.below hB).one; have q1 := (hR0.out.below hB).cell k hlt; rw [hvk.out] at q1; obtain ⟨k1, k2, k3, k4, hD, hw, ht⟩ := hE.out.below (bt_ hB1 hB)
        go_simp
        exact hK _ (Below.refl _ _)
      case s14 =>
        intro W hB K hK
        simp only [tellK, Act.put, List.setIfInBounds_toArray, List.set_cons_zero, List.set_cons_succ] at hK ⊢
        refine tell_do rfl ?_
        have q0 := (hO.below hB).one; have q1 := (hR0.out.below hB).cell k hlt; rw [hvk.out] at q1; obtain ⟨k1, k2, k3, k4, hD, hw, ht⟩ := hE.out.below (bt_ hB1 hB)
        go_simp
        exact hK _ (Below.refl _ _)
      case s15 =>
        intro W hB K hK
        simp only [tellK, Act.put, List.setIfInBounds_toArray, List.set_cons_zero, List.set_cons_succ] at hK ⊢
        refine tell_do rfl ?_
        have q0 := (hO.below hB).one; have q1 := (hR0.out.below hB).cell k hlt; rw [hvk.out] at q1; obtain ⟨k1, k2, k3, k4, hD, hw, ht⟩ := hE.out.below (bt_ hB1 hB)
        go_simp
        exact hK _ (Below.refl _ _)
      case s16 =>
        intro W hB K hK
        simp only [tellK, Act.put, List.setIfInBounds_toArray, List.set_cons_zero, List.set_cons_succ] at hK ⊢
        refine tell_do rfl ?_
        have q0 := (hO.below hB).one; have q1 := (hR0.out.below hB).cell k hlt; rw [hvk.out] at q1; obtain ⟨k1, k2, k3, k4, hD, hw, ht⟩ := hE.out.below (bt_ hB1 hB)
        go_simp
        exact hK _ (Below.refl _ _)
      case s17 =>
        intro W hB K hK
        simp only [tellK, Act.put, List.setIfInBounds_toArray, List.set_cons_zero, List.set_cons_succ] at hK ⊢
        refine tell_do rfl ?_
        have q0 := (hO.below hB).one; have q1 := (hR0.out.below hB).cell k hlt; rw [hvk.out] at q1; obtain ⟨k1, k2, k3, k4, hD, hw, ht⟩ := hE.out.below (bt_ hB1 hB)
        go_simp
        exact hK _ (Below.refl _ _)
      case s18 =>
        intro W hB K hK
        simp only [tellK, Act.put, List.setIfInBounds_toArray, List.set_cons_zero, List.set_cons_succ] at hK ⊢
        refine tell_do rfl ?_
        have q0 := (hO.below hB).one; have q1 := (hR0.out.below hB).cell k hlt; rw [hvk.out] at q1; obtain ⟨k1, k2, k3, k4, hD, hw, ht⟩ := hE.out.below (bt_ hB1 hB)
        go_simp
        exact hK _ (Below.refl _ _)
      case s19 =>
        intro W hB K hK
        simp only [tellK, Act.put, List.setIfInBounds_toArray, List.set_cons_zero, List.set_cons_succ] at hK ⊢
        refine tell_do rfl ?_
        have q0 := (hO.below hB).one; have q1 := (hR0.out.below hB).cell k hlt; rw [hvk.out] at q1; obtain ⟨k1, k2, k3, k4, hD, hw, ht⟩ := hE.out.below (bt_ hB1 hB)
        go_simp
        exact hK _ (Below.refl _ _)
      case s20 =>
        intro W hB K hK
        simp only [tellK, Act.put, List.setIfInBounds_toArray, List.set_cons_zero, List.set_cons_succ] at hK ⊢
        refine tell_do rfl ?_
        have q0 := (hO.below hB).one; have q1 := (hR0.out.below hB).cell k hlt; rw [hvk.out] at q1; obtain ⟨k1, k2, k3, k4, hD, hw, ht⟩ := hE.out.below (bt_ hB1 hB)
        go_simp
        exact hK _ (Below.refl _ _)
      case s21 =>
        intro W hB K hK
        simp only [tellK, Act.put, List.setIfInBounds_toArray, List.set_cons_zero, List.set_cons_succ] at hK ⊢
        refine tell_do rfl ?_
        have q0 := (hO.below hB).one; have q1 := (hR0.out.below hB).cell k hlt; rw [hvk.out] at q1; obtain ⟨k1, k2, k3, k4, hD, hw, ht⟩ := hE.out.below (bt_ hB1 hB)
        go_simp
        go_at_call 58; refine (point_c i _).mono ?_; rintro e w6 ⟨rfl, rfl⟩; exact hK _ (Below.refl _ _)
      case s22 =>
        intro W hB K hK
        simp only [tellK, Act.put, List.setIfInBounds_toArray, List.set_cons_zero, List.set_cons_succ] at hK ⊢
        refine tell_do rfl ?_
        have q0 := (hO.below hB).one; have q1 := (hR0.out.below hB).cell k hlt; rw [hvk.out] at q1; obtain ⟨k1, k2, k3, k4, hD, hw, ht⟩ := hE.out.below (bt_ hB1 hB)
        go_simp
        go_at_call 208; refine (hval _ hD (hDv.below hB) (hmid1.below hB)).out.mono ?_; rintro e w7 ⟨rfl, h7⟩; exact hK _ h7.below
      case s23 =>
        intro W hB K hK
        simp only [tellK, Act.put, List.setIfInBounds_toArray, List.set_cons_zero, List.set_cons_succ] at hK ⊢
        refine tell_do rfl ?_
        have q0 := (hO.below hB).one; have q1 := (hR0.out.below hB).cell k hlt; rw [hvk.out] at q1; obtain ⟨k1, k2, k3, k4, hD, hw, ht⟩ := hE.out.below (bt_ hB1 hB)
        go_simp
        exact hK _ _ (lit_b W [y] _ _ _ _ rfl rfl (by decide) (by decide)) (alloc_b _ _)
      case s25 =>
        intro W hB K hK
        simp only [tellK, Act.put, List.setIfInBounds_toArray, List.set_cons_zero, List.set_cons_succ] at hK ⊢
        refine tell_do rfl ?_
        have q0 := (hO.below hB).one; have q1 := (hR0.out.below hB).cell k hlt; rw [hvk.out] at q1; obtain ⟨k1, k2, k3, k4, hD, hw, ht⟩ := hE.out.below (bt_ hB1 hB)
        go_simp
        exact hK _ (Below.refl _ _)
      case l0 =>
        intro v W hM
        simp only [tellGo]
        intro K hK
        simp only [Act.put, List.setIfInBounds_toArray, List.set_cons_zero, List.set_cons_succ] at hK ⊢
        refine tell_do rfl ?_
        obtain ⟨A, m, c, Wp, rfl, hRp, hOp, hgp, hatp, hbo', hbB⟩ := hM; have q0 := hbo'.one
        go_simp
        exact hK _ _ ⟨rfl, rfl⟩
      case l1 =>
        intro v W hM
        simp only [tellGo]
        intro K hK
        simp only [Act.put, List.setIfInBounds_toArray, List.set_cons_zero, List.set_cons_succ] at hK ⊢
        refine tell_do rfl ?_
        obtain ⟨A, m, c, Wp, rfl, hRp, hOp, hgp, hatp, hbo', hbB⟩ := hM; have q0 := hbo'.one
        go_simp
        exact hK _ _ ⟨rfl, rfl⟩
      case l25 =>
        intro v W hM
        simp only [bareL, List.map_cons, List.map_nil, List.set_cons_zero, List.set_cons_succ, tellGo, sayAt, List.getD_cons_zero, List.getD_cons_succ]
        intro K hK
        simp only [Act.put, List.setIfInBounds_toArray, List.set_cons_zero, List.set_cons_succ] at hK ⊢
        refine tell_do rfl ?_
        obtain ⟨A, m, c, Wp, rfl, hRp, hOp, hgp, hatp, hbo', hbB⟩ := hM; have q0 := hbo'.one
        go_simp
        exact hK _ _ ⟨rfl, rfl⟩
      case ap =>
        intro W hB v23 h23 K hK
        replace h23 : Rb W v23 [y] := h23
        simp only [Act.put, List.setIfInBounds_toArray, List.set_cons_zero, List.set_cons_succ] at hK ⊢
        refine tell_do rfl ?_
        have q0 := (hO.below hB).one; have q1 := (hR0.out.below hB).cell k hlt; rw [hvk.out] at q1; obtain ⟨k1, k2, k3, k4, hD, hw, ht⟩ := hE.out.below (bt_ hB1 hB)
        have hOk1 := hOk.below hB
        refine wp_app_z (w0 := w9) (.tmp 23) (.tmp 41) (by rfl) vk (ls k) v23 [y] (by rfl) (by rfl) hOk1 h23 Nat.one_pos (bt_ hB1 hB) (by have := hll2.out; show (ls k).length + 1 ≤ 1000000000; omega) ?_
        intro ga na ca wa ho1 hb1 hg1 hat1
        exact hK _ _ ⟨_, _, _, W, rfl, hR0.out.below hB, ho1, hg1, hat1, (hR0.out.below hB).grown k hlt (hO.below hB) (by decide) (by rw [hvk.out]; exact hg1), hb1⟩
      case sto =>
        intro v W hM
        simp only [bareL, List.map_cons, List.map_nil, List.set_cons_zero, List.set_cons_succ, tellGo, sayAt, List.getD_cons_zero, List.getD_cons_succ]
        intro K hK
        simp only [Act.put, List.setIfInBounds_toArray, List.set_cons_zero, List.set_cons_succ] at hK ⊢
        refine tell_do rfl ?_
        obtain ⟨A, m, c, Wp, rfl, hRp, hOp, hgp, hatp, hbo', hbB⟩ := hM
        obtain ⟨z1, z2⟩ := hRp.slot k hlt (by rw [hvk.out]; exact hgp)
        rw [hvk.out] at z1
        go_simp
        have hRn := hRp.put k hlt hOp (by rw [hvk.out]; exact hgp) (by rw [hvk.out]; exact hatp)
        exact hK undef _ ⟨⟨_, hRn.congr hcg.out⟩, hbo'.far hne2 k _, below_set hbB hRp.base⟩
      case hQ =>
        intro v W hP
        simp only [bareL, List.map_cons, List.map_nil, List.set_cons_zero, List.set_cons_succ, tellGo, sayAt, List.getD_cons_zero, List.getD_cons_succ]
        intro v23 _ v26 _
        simp only [Act.put, List.setIfInBounds_toArray, List.set_cons_zero, List.set_cons_succ]
        obtain ⟨⟨vs'', hR2⟩, hO2, hB2⟩ := hP
        go_wp2
        exact ⟨⟨k + 1, vs'', by omega, by go_num, hR2, hO2, hB2⟩, by simp [intOf]; try omega⟩
    · obtain rfl : k = who.length := by omega
      go_wp2
      go_end0
      exact ⟨rfl, vs', hR.congr (fun q hq => by rw [if_pos hq]), hO, hB⟩
end Go.Proofs.Ytijeabhfddaoaaa
