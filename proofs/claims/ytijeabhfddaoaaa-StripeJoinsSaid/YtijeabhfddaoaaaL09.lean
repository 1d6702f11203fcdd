/- The example of layer 9. -/
import Derived.Test.YtijeabhfddaoaaaR09
import Derived.Test.YtijeabhfddaoaaaR04s
import Derived.Test.YtijeabhfddaoaaaA08
import Derived.Laws.IdiomStrings
import Derived.Lib.SlBytesConst
namespace Go.Proofs.Ytijeabhfddaoaaa
set_option linter.unusedVariables false
open Go.RowKit Go.Proofs.YtijeabhfddaoaaaW.PrintWords Go.Proofs.Sh

theorem lit_bm (w : World) (l : List F) (cs : Array Value) (t : TypeId) (p q : Nat) (n c : Nat) (h : cs.toList = l.map bV) (hn : n = l.length) (hc : n ≤ c) (hm : n ≤ 9223372036854775807) :
    Rb (w.alloc (.cells cs t (p, q))) (.slice (some ⟨w.heap.size, 0, none⟩) n c) l := by
  subst hn
  refine ⟨_, c, rfl, hc, rfl, hm, fun _ => ⟨_, rfl, fun j p hj => ⟨[bV p], rfl, rfl, fun i u hu => ?_⟩⟩⟩
  cases i with
  | zero =>
    have hv : bV p = u := by simpa using hu
    have hcs : cs[j]? = some (bV p) := by
      rw [← Array.getElem?_toList, h, List.getElem?_map, hj]
      rfl
    have ha : (⟨w.heap.size, 0, none⟩ : Addr).add (j * 1 + 0) = ⟨w.heap.size, j, none⟩ := by rw [add_plain, Nat.mul_one, Nat.add_zero]
    show (w.alloc (.cells cs t _)).cell? ((⟨w.heap.size, 0, none⟩ : Addr).add (j * 1 + 0)) = some u
    rw [ha, World.cell?_alloc_mark, hcs, hv]
  | succ i => simp at hu
theorem mk_const (C : Array Value) (n c : Nat) (w : World) : (convert 40 40 (.slice (some ⟨w.heap.size, 0, none⟩) n c)).run Try.prog (w.alloc (.cells C 5)) = .ok (.slice (some ⟨w.heap.size, 0, none⟩) n c) (w.alloc (.cells C 5 (C.size, C.size + 1))) :=
  Lib.run_convert_bytes_const w 40 5 C n c (by kernel_rfl) (by kernel_rfl)
theorem str_of (w : World) (A : Option Addr) (c : Nat) (h : Rb w (.slice A 3 c) [F.of 97, F.of 98, F.of 99]) : (convert 40 9 (.slice A 3 c)).run Try.prog w = .ok (.string { data := #[97, 98, 99] }) w := by
  obtain ⟨ad, rfl, _⟩ := kb_at (rk_C h) 0 (by decide)
  refine run_convert_bytes_back (P := Try.prog) w 40 9 5 ad c [97, 98, 99] (by kernel_rfl) (by kernel_rfl) (by kernel_rfl) ?_
  intro j hj
  obtain ⟨ad2, e, hc⟩ := kb_at (rk_C h) j hj
  cases e
  rw [hc]
  match j, hj with
  | 0, _ => rfl
  | 1, _ => rfl
  | 2, _ => rfl
set_option maxRecDepth 100000 in
set_option maxHeartbeats 3200000 in
theorem alive09 (w : World) :
   Calls Try.prog 86 #[] w fun e w' => e = .returned (.bool true) ∧ Below w.heap.size w w' := by
  have E1 : Hid (F.cutOf somePl.L.toNat [F.of 97, F.of 98, F.of 99] (F.nS somePl.L.toNat [F.of 97, F.of 98, F.of 99].length) = [[F.of 97, F.of 98], [F.of 99, 0]]) := Lib.hid (by decide +kernel)
  have E2 : fitsJ somePl [[F.of 97, F.of 98], [F.of 99, 0]] (3 : Nat) := by decide +kernel
  have E3 : Hid (F.joinOf somePl.L.toNat [[F.of 97, F.of 98], [F.of 99, 0]] 3 = [F.of 97, F.of 98, F.of 99]) := Lib.hid (by decide +kernel)
  have hB := Below.refl w.heap.size w
  replace E2 := Lib.hid E2
  go_enter Try.func86, Try.ntmps86
  go_wp2_with fail
  refine (some_c _).mono ?_
  rintro e w1 ⟨rfl, h1⟩
  replace hB := bt_ hB h1
  clear h1
  have hmk := mk_const #[.int .u8 97, .int .u8 98, .int .u8 99] 3 3 w1
  have hab := lit_bm w1 [F.of 97, F.of 98, F.of 99] #[.int .u8 97, .int .u8 98, .int .u8 99] 5 3 4 3 3 rfl rfl (by decide) (by decide)
  go_wp2_with fail
  refine (sCut_ok somePl somePl_ok _ [F.of 97, F.of 98, F.of 99] _ hab (by decide)).mono ?_
  rintro e w2 ⟨z, rfl, hO, h2⟩
  rw [E1.out] at hO
  replace hB := bt_ (bt_ hB (below_alloc (Below.refl _ _) _)) h2
  have hz := hO.rk
  clear hO h2 E1
  go_wp2_with fail
  refine (some_c _).mono ?_
  rintro e w3 ⟨rfl, h3⟩
  replace hz := hz.below h3
  replace hB := bt_ hB h3
  clear h3
  go_wp2_with fail
  refine (sJoin_ok somePl somePl_ok z _ 3 (by decide) _ hz E2.out).mono ?_
  rintro e w4 ⟨y, rfl, hY, h4⟩
  rw [E3.out] at hY
  replace hz := hz.below h4
  replace hB := bt_ hB h4
  have hy := hY.rk
  clear hY h4 E3 E2
  obtain ⟨Ay, cy, rfl⟩ := rk_form hy
  rw [show [F.of 97, F.of 98, F.of 99].length = 3 from rfl] at *
  have r0 : Rb (w4.alloc (.cells #[.int .u8 97, .int .u8 98] 5)) (.slice (some ⟨w4.heap.size, 0, none⟩) 2 2) [F.of 97, F.of 98] := lit_b _ _ _ _ _ _ rfl rfl (by decide) (by decide)
  have r1 := lit_b (w4.alloc (.cells #[.int .u8 97, .int .u8 98] 5)) [F.of 99, 0] #[.int .u8 99, .int .u8 0] 5 2 2 rfl rfl (by decide) (by decide)
  rw [World.size_alloc] at r1
  have rr := lit_bb2 _ _ _ _ _ 40 (r0.alloc _) r1
  rw [World.size_alloc, World.size_alloc] at rr
  replace hz := ((hz.alloc (.cells #[.int .u8 97, .int .u8 98] 5)).alloc (.cells #[.int .u8 99, .int .u8 0] 5)).alloc (.cells #[.slice (some ⟨w4.heap.size, 0, none⟩) 2 2, .slice (some ⟨w4.heap.size + 1, 0, none⟩) 2 2] 40)
  replace hy := ((hy.alloc (.cells #[.int .u8 97, .int .u8 98] 5)).alloc (.cells #[.int .u8 99, .int .u8 0] 5)).alloc (.cells #[.slice (some ⟨w4.heap.size, 0, none⟩) 2 2, .slice (some ⟨w4.heap.size + 1, 0, none⟩) 2 2] 40)
  replace hB := below_alloc (below_alloc (below_alloc hB (.cells #[.int .u8 97, .int .u8 98] 5)) (.cells #[.int .u8 99, .int .u8 0] 5)) (.cells #[.slice (some ⟨w4.heap.size, 0, none⟩) 2 2, .slice (some ⟨w4.heap.size + 1, 0, none⟩) 2 2] 40)
  clear r0 r1
  go_wp2_with fail
  refine (rSameR_c _ _ _ _ _ hz rr).mono ?_
  rintro e w5 ⟨rfl, h5⟩
  rw [decide_eq_true rfl]
  have hcv := str_of w5 Ay cy (hy.below h5.below)
  replace hB := bt_ hB h5.below
  clear hz hy rr h5
  go_wp2
  go_ret
  exact ⟨rfl, hB⟩
end Go.Proofs.Ytijeabhfddaoaaa
