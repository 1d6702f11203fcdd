/- The walk of matrix.clean. -/
import Derived.Test.YtijeabhfddaoaaaMi
namespace Go.Proofs.Ytijeabhfddaoaaa
set_option linter.unusedVariables false
set_option linter.unusedSimpArgs false
open Go.RowKit Go.Proofs.YtijeabhfddaoaaaW.PrintWords Go.Proofs.Sh

theorem cln_row (l : F.Mx) (k : Nat) (r : F.Mx) (i : Nat) (n : Nat) (q : Nat) (h : q ≠ i) : rw_ n (F.cln l k r (i + 1) q) = rw_ n (F.cln l k r i q) := by
  rw [F.cln_at, F.cln_at]
  by_cases e : q < i ∧ q ≠ k
  · rw [if_pos e, if_pos ⟨by omega, e.2⟩]
  · rw [if_neg e, if_neg (by omega)]
/-- A round that changes nothing. -/
theorem cln_idle (l : F.Mx) (k : Nat) (r : F.Mx) (i n : Nat) (h : i = k ∨ l i k = 0) (q : Nat) : rw_ n (F.cln l k r i q) = rw_ n (F.cln l k r (i + 1) q) := by
  by_cases e : q = i
  · subst e
    rw [F.cln_at, F.cln_at, if_neg (by omega)]
    by_cases e2 : q = k
    · rw [if_neg (by omega)]
    · rw [if_pos ⟨by omega, e2⟩]
      refine rw_congr fun j _ => ?_
      rw [h.resolve_left e2, F.mul_zero, F.add_zero]
  · rw [cln_row l k r i n q e]
/-- A round that adds. -/
theorem cln_do (l : F.Mx) (k : Nat) (r : F.Mx) (i n : Nat) (h : i ≠ k) (q : Nat) : (if q = i then rw_ n (fun j => r i j + r k j * l i k) else rw_ n (F.cln l k r i q)) = rw_ n (F.cln l k r (i + 1) q) := by
  by_cases e : q = i
  · subst e
    rw [if_pos rfl, F.cln_at, if_pos ⟨by omega, h⟩]
  · rw [if_neg e, cln_row l k r i n q e]
set_option maxRecDepth 100000 in
set_option maxHeartbeats 3200000 in
theorem mClean_c (b9 g h n k : Nat) (vs us : Nat → Value) (l r : F.Mx) (w0 w : World) (hF : IsField w0 b9) (hkn : k < n) (hn : n ≤ 1000) (hL : Rws w0 w g n vs (fun i => rw_ n (l i))) (hR : Rws w0 w h n us (fun i => rw_ n (r i))) (hgh : g ≠ h) (hap : ∀ i j, i < n → j < n → NeRow (vs i) (us j)) (hB : Below w0.heap.size w0 w) :
   Calls Try.prog 177 #[fp b9, .slice (some ⟨g, 0, none⟩) n n, .slice (some ⟨h, 0, none⟩) n n, .int .i64 (k : Int)] w fun e w' => e = .returned (.tuple #[]) ∧
     Rws w0 w' g n vs (fun i => rw_ n (F.cln l k l n i)) ∧ Rws w0 w' h n us (fun i => rw_ n (F.cln l k r n i)) ∧ Below w0.heap.size w0 w' ∧ ∀ (b : Nat) (cs : Array Value) (t : TypeId), Blk w b cs t → 5 ≠ t → t ≠ 40 → Blk w' b cs t := by
  go_enter Try.func177, Try.ntmps177
  go_wp2_with fail
  go_loopw [12] (fun i wr => ∃ i' : Nat, i' ≤ n ∧ i = .int .i64 i' ∧ Rws w0 wr g n vs (fun q => rw_ n (F.cln l k l i' q)) ∧ Rws w0 wr h n us (fun q => rw_ n (F.cln l k r i' q)) ∧ Below w0.heap.size w0 wr ∧ Hid (∀ (b : Nat) (cs : Array Value) (t : TypeId), Blk w b cs t → 5 ≠ t → t ≠ 40 → Blk wr b cs t)) (fun i _ => n - (intOf i).toNat)
  case atStart => exact ⟨0, by omega, rfl, hL, hR, hB, Lib.hid (fun _ _ _ h _ _ => h)⟩
  case round =>
    clear hL hR hB
    obtain ⟨i, hi, rfl, hL, hR, hB, hK⟩ := hrel
    by_cases hlt : i < n
    · have oI := hL.own i hlt
      have oK := hL.own k hkn
      have pI := hR.own i hlt
      have pK := hR.own k hkn
      rw [F.cln_at, if_neg (by omega)] at oI pI oK pK
      obtain ⟨gi, ci, eI, _, _⟩ := oI.form (by rw [rw_len]; omega)
      obtain ⟨gk, ck, eK, _, _⟩ := oK.form (by rw [rw_len]; omega)
      obtain ⟨Bi, di, fI⟩ := rk_form pI.rk
      obtain ⟨Bk, dk, fK⟩ := rk_form pK.rk
      rw [rw_len] at eI eK fI fK
      have cI := hL.cell i hlt
      rw [eI] at cI
      have oI1 := oI
      rw [eI] at oI1
      obtain ⟨e1, e2⟩ := oI1.at k (by rw [rw_len]; exact hkn)
      rw [rw_at _ hkn] at e1
      clear e2 oI1
      by_cases h1 : i = k
      · have t1 : ((i : Int) != (i : Int)) = false := bne_self_eq_false _
        have hL1 := hL.congr (fun q hq => cln_idle l k l i n (.inl h1) q)
        have hR1 := hR.congr (fun q hq => cln_idle l k r i n (.inl h1) q)
        clear oI oK pI pK hL hR
        subst h1
        go_wp2
        exact ⟨⟨i + 1, by omega, by go_num, hL1, hR1, hB, hK⟩, by simp [intOf]; try omega⟩
      · have t1 : ((i : Int) != (k : Int)) = true := bne_iff_ne.2 (by omega)
        have t0 : ¬ (i : Int) = (k : Int) := by omega
        by_cases h2 : l i k = 0
        · have t2 : (((l i k).n : Int) != 0) = false := by rw [h2]; rfl
          have hL1 := hL.congr (fun q hq => cln_idle l k l i n (.inr h2) q)
          have hR1 := hR.congr (fun q hq => cln_idle l k r i n (.inr h2) q)
          clear oI oK pI pK hL hR h1 h2
          go_wp2
          exact ⟨⟨i + 1, by omega, by go_num, hL1, hR1, hB, hK⟩, by simp [intOf]; try omega⟩
        · have t2 : (((l i k).n : Int) != 0) = true := bne_iff_ne.2 (by have := F.n_pos h2; omega)
          have cK := hL.cell k hkn
          rw [eK] at cK
          have HL := Lib.hid (fun q => cln_do l k l i n h1 q)
          have HR := Lib.hid (fun q => cln_do l k r i n h1 q)
          have hne1 := hL.apart i k hlt hkn h1
          have hne2 := hR.apart i k hlt hkn h1
          rw [eI] at oI
          rw [eK] at oK
          rw [fI] at pI
          rw [fK] at pK
          rw [eI, eK] at hne1
          rw [fI, fK] at hne2
          generalize hx : l i k = x at *
          replace hx := Lib.hid hx
          clear h1 h2
          have hkp : Hid (∀ V V', Below wr.heap.size wr V → V.grownBy V' (Value.slice (some ⟨gi, 0, none⟩) n ci).ownBlock → V'.cell? ⟨g, i, none⟩ = some (.slice (some ⟨gi, 0, none⟩) n ci) ∧ V'.cell? ⟨g, k, none⟩ = some (.slice (some ⟨gk, 0, none⟩) n ck)) := Lib.hid (fun V V' h1 h2 => by
            rw [← eI] at h2
            obtain ⟨z1, _⟩ := (hL.below h1).slot i hlt h2
            obtain ⟨cs, hc, hs, hcs⟩ := (hL.below h1).blk
            have hcg := blk_grown hc h2 ((hL.below h1).ne_own i hlt)
            rw [← eI, ← eK]
            exact ⟨z1, by rw [blk_cell hcg, hcs k hkn]⟩)
          have hkq : Hid (∀ V V', Below wr.heap.size wr V → V.grownBy V' (Value.slice (some ⟨gi, 0, none⟩) n ci).ownBlock → Rws w0 V' h n us (fun q => rw_ n (F.cln l k r i q)) ∧ (∀ (b : Nat) (cs : Array Value) (t : TypeId), Blk w b cs t → 5 ≠ t → t ≠ 40 → Blk V' b cs t)) := Lib.hid (fun V V' h1 h2 => by
            rw [← eI] at h2
            have hV := hR.below h1
            exact ⟨hV.keep h2 (by have ⟨cs, hc, _⟩ := hV.blk; exact own_ne (own_b ((hL.below h1).own i hlt)) hc (by decide)) (fun j hj => ne_other (hap i j hlt hj)), fun b cs t hb ht1 ht2 => blk_grown (Blk.below (hK.out b cs t hb ht1 ht2) h1) h2 (own_ne (own_b ((hL.below h1).own i hlt)) (Blk.below (hK.out b cs t hb ht1 ht2) h1) ht1)⟩)
          replace hap := Lib.hid hap
          go_wp2_with fail
          go_region_held3 (fun w' => w'.cell? ⟨g, i, none⟩ = some (.slice (some ⟨gi, 0, none⟩) n ci) ∧ w'.cell? ⟨g, k, none⟩ = some (.slice (some ⟨gk, 0, none⟩) n ck))
            (go_keep)
            (first
              | (go_at_call 205; refine (mAdd_c b9 _ _ n (l i) (l k) x w0 _ hF (oI.below (pw_below_drewN (Below.refl _ _) _)) (oK.below (pw_below_drewN (Below.refl _ _) _)) hne1 (pw_below_drewN hB _) hn).mono ?_; rintro e w5 ⟨rfl, hO5, hg5, hB5⟩; obtain ⟨cI, cK⟩ := hkp.out _ _ (pw_below_drewN (Below.refl _ _) _) hg5; have hR5 := hkq.out _ _ (pw_below_drewN (Below.refl _ _) _) hg5; have hL5 := (hL.below (pw_below_drewN (Below.refl _ _) _)).touch i hlt (by rw [eI]; exact hO5) (by rw [eI]; exact hg5))
              | fail)
          obtain ⟨hR5, hK5⟩ := hR5
          replace hK5 := Lib.hid hK5
          have hL5 := hL5.congr (ls' := fun q => rw_ n (F.cln l k l (i + 1) q)) (fun q hq => HL.out q)
          clear cI cK hO5 hg5 hkp hkq oI oK pI pK hL hR hB hK
          have pI := hR5.own i hlt
          have pK := hR5.own k hkn
          rw [F.cln_at, if_neg (by omega)] at pI pK
          have dI := hR5.cell i hlt
          have dK := hR5.cell k hkn
          rw [fI] at pI dI
          rw [fK] at pK dK
          have hkp : Hid (∀ V V', Below w5.heap.size w5 V → V.grownBy V' (Value.slice Bi n di).ownBlock → V'.cell? ⟨h, i, none⟩ = some (.slice Bi n di) ∧ V'.cell? ⟨h, k, none⟩ = some (.slice Bk n dk)) := Lib.hid (fun V V' h1 h2 => by
            rw [← fI] at h2
            obtain ⟨z1, _⟩ := (hR5.below h1).slot i hlt h2
            obtain ⟨cs, hc, hs, hcs⟩ := (hR5.below h1).blk
            have hcg := blk_grown hc h2 ((hR5.below h1).ne_own i hlt)
            rw [← fI, ← fK]
            exact ⟨z1, by rw [blk_cell hcg, hcs k hkn]⟩)
          have hkq : Hid (∀ V V', Below w5.heap.size w5 V → V.grownBy V' (Value.slice Bi n di).ownBlock → Rws w0 V' g n vs (fun q => rw_ n (F.cln l k l (i + 1) q)) ∧ (∀ (b : Nat) (cs : Array Value) (t : TypeId), Blk w b cs t → 5 ≠ t → t ≠ 40 → Blk V' b cs t)) := Lib.hid (fun V V' h1 h2 => by
            rw [← fI] at h2
            have hV := hL5.below h1
            exact ⟨hV.keep h2 (by have ⟨cs, hc, _⟩ := hV.blk; exact own_ne (own_b ((hR5.below h1).own i hlt)) hc (by decide)) (fun j hj => ne_other (ne_symm (hap.out j i hj hlt))), fun b cs t hb ht1 ht2 => blk_grown (Blk.below (hK5.out b cs t hb ht1 ht2) h1) h2 (own_ne (own_b ((hR5.below h1).own i hlt)) (Blk.below (hK5.out b cs t hb ht1 ht2) h1) ht1)⟩)
          go_wp2_with fail
          go_region_held3 (fun w' => w'.cell? ⟨h, i, none⟩ = some (.slice Bi n di) ∧ w'.cell? ⟨h, k, none⟩ = some (.slice Bk n dk))
            (go_keep)
            (first
              | (go_at_call 205; refine (mAdd_c b9 _ _ n (r i) (r k) x w0 _ hF (pI.below (pw_below_drewN (Below.refl _ _) _)) (pK.below (pw_below_drewN (Below.refl _ _) _)) hne2 (pw_below_drewN hB5 _) hn).mono ?_; rintro e w6 ⟨rfl, hO6, hg6, hB6⟩; obtain ⟨dI, dK⟩ := hkp.out _ _ (pw_below_drewN (Below.refl _ _) _) hg6; have hL6 := hkq.out _ _ (pw_below_drewN (Below.refl _ _) _) hg6; have hR6 := (hR5.below (pw_below_drewN (Below.refl _ _) _)).touch i hlt (by rw [fI]; exact hO6) (by rw [fI]; exact hg6))
              | fail)
          have hR6 := hR6.congr (ls' := fun q => rw_ n (F.cln l k r (i + 1) q)) (fun q hq => HR.out q)
          go_wp2
          exact ⟨⟨i + 1, by omega, by go_num, hL6.1, hR6, hB6, Lib.hid hL6.2⟩, by simp [intOf]; try omega⟩
    · obtain rfl : i = n := by omega
      go_wp2
      go_end0
      exact ⟨rfl, hL, hR, hB, hK.out⟩
end Go.Proofs.Ytijeabhfddaoaaa
