/- The walk of what matrix.Inverse does to both matrices, one behind the other. -/
import Derived.Test.YtijeabhfddaoaaaMj
namespace Go.Proofs.Ytijeabhfddaoaaa
set_option linter.unusedVariables false
set_option linter.unusedSimpArgs false
open Go.RowKit Go.Proofs.YtijeabhfddaoaaaW.PrintWords Go.Proofs.Sh

section
variable {w0 w w1 : World} {g h n : Nat} {vs us : Nat → Value} {ls ms : Nat → List F}
theorem Frm.kept (hf : Frm g n vs w w1) (hL : Rws w0 w g n vs ls) : ∀ (b : Nat) (cs : Array Value) (t : TypeId), Blk w b cs t → 5 ≠ t → t ≠ 40 → Blk w1 b cs t :=
  fun b cs t hb h1 h2 => hf.blk b cs t hb (hL.ne_blk hb h2) (fun j hj => own_ne (own_b (hL.own j hj)) hb h1)
theorem ap_sw {i k : Nat} (hi : i < n) (hk : k < n) (hap : ∀ i j, i < n → j < n → NeRow (vs i) (us j)) : ∀ p q, p < n → q < n → NeRow (swv vs i k p) (swv us i k q) := fun p q hp hq => by
  obtain ⟨p', h1, e1⟩ := swv_is vs i k hi hk p hp
  obtain ⟨q', h2, e2⟩ := swv_is us i k hi hk q hq
  rw [e1, e2]
  exact hap p' q' h1 h2
theorem ap_sw1 {i k : Nat} (hi : i < n) (hk : k < n) (hap : ∀ i j, i < n → j < n → NeRow (vs i) (us j)) : ∀ p q, p < n → q < n → NeRow (us p) (swv vs i k q) := fun p q hp hq => by
  obtain ⟨q', h2, e2⟩ := swv_is vs i k hi hk q hq
  rw [e2]
  exact ne_symm (hap q' p h2 hp)
end
set_option maxRecDepth 100000 in
set_option maxHeartbeats 3200000 in
theorem inv1_c (b9 bf bi bk bc bl br g h n i k : Nat) (vs us : Nat → Value) (a c : F.Mx) (x : F) (w0 w : World) (hF : IsField w0 b9) (hin : i < n) (hkn : k < n) (hn : n ≤ 1000) (hL : Rws w0 w g n vs (fun r => rw_ n (a r))) (hR : Rws w0 w h n us (fun r => rw_ n (c r))) (hgh : g ≠ h) (hap : ∀ i j, i < n → j < n → NeRow (vs i) (us j)) (hB : Below w0.heap.size w0 w)
   (lB : Blk w bl #[.slice (some ⟨g, 0, none⟩) n n] 66) (rB : Blk w br #[.slice (some ⟨h, 0, none⟩) n n] 66) (fB : Blk w bf #[fp b9] 22) (iB : Blk w bi #[.int .i64 (i : Int)] 3) (kB : Blk w bk #[.int .i64 (k : Int)] 3) (cB : Blk w bc #[.int .u8 (x.n : Int)] 5) (hbc : ∀ j, j < n → some bc ≠ (vs j).ownBlock) (hbd : ∀ j, j < n → some bc ≠ (us j).ownBlock) :
   Calls Try.prog 174 #[.func (.func 175) #[] #[.pointer (some ⟨bk, 0, none⟩), .pointer (some ⟨bi, 0, none⟩), .pointer (some ⟨bf, 0, none⟩), .pointer (some ⟨bc, 0, none⟩)], .pointer (some ⟨bl, 0, none⟩), .pointer (some ⟨br, 0, none⟩)] w fun e w' => e = .returned (.tuple #[]) ∧
     Rws w0 w' g n (swv vs i k) (fun r => rw_ n (F.scl (F.swp a i k) k (F.inv x) r)) ∧ Rws w0 w' h n (swv us i k) (fun r => rw_ n (F.scl (F.swp c i k) k (F.inv x) r)) ∧ Below w0.heap.size w0 w' ∧ ∀ (b : Nat) (cs : Array Value) (t : TypeId), Blk w b cs t → 5 ≠ t → t ≠ 40 → Blk w' b cs t := by
  have l0 := lB.one
  go_enter Try.func174, Try.ntmps174
  go_wp2_with fail
  refine (inv2_c b9 bf bi bk bc g n i k vs a x w0 _ hF hin hkn hn hL hB fB iB kB cB hbc).mono ?_
  rintro e w1 ⟨rfl, hL1, hf1, hB1⟩
  have hR1 := hf1.rws hL hR hgh hap
  have hk1 := hf1.kept hL
  have rB1 := hk1 _ _ _ rB (by decide) (by decide)
  have fB1 := hk1 _ _ _ fB (by decide) (by decide)
  have iB1 := hk1 _ _ _ iB (by decide) (by decide)
  have kB1 := hk1 _ _ _ kB (by decide) (by decide)
  have cB1 := hf1.blk _ _ _ cB (hL.ne_blk cB (by decide)) hbc
  have r0 := rB1.one
  clear l0
  go_wp2_with fail
  refine (inv2_c b9 bf bi bk bc h n i k us c x w0 _ hF hin hkn hn hR1 hB1 fB1 iB1 kB1 cB1 hbd).mono ?_
  rintro e w2 ⟨rfl, hR2, hf2, hB2⟩
  have hL2 := hf2.rws hR1 hL1 (fun e => hgh e.symm) (ap_sw1 hin hkn hap)
  have hk2 := hf2.kept hR1
  go_wp2
  go_end0
  exact ⟨rfl, hL2, hR2, hB2, fun b cs t hb h1 h2 => hk2 b cs t (hk1 b cs t hb h1 h2) h1 h2⟩
end Go.Proofs.Ytijeabhfddaoaaa
