/- The walks of the laws of layer 1. -/
import Derived.Test.YtijeabhfddaoaaaGf
import Derived.Test.YtijeabhfddaoaaaR01
namespace Go.Proofs.Ytijeabhfddaoaaa
open Go.RowKit Go.Proofs.YtijeabhfddaoaaaW.PrintWords Go.Proofs.Sh

set_option maxHeartbeats 800000 in
theorem alive01 (w : World) :
   Calls Try.prog 45 #[] w fun e w' => e = .returned (.bool true) ∧ Below w.heap.size w w' := by
  have e1 : (F.of 2 * F.of 128).n = 27 := by decide +kernel
  have e2 : (F.inv (F.of 2)).n = 141 := by decide +kernel
  have e3 : (F.of 5 + F.of 3).n = 6 := by decide +kernel
  have e4 : (F.pwZ (F.of 3) 255).n = 1 := by decide +kernel
  have e5 : (F.of 27 * F.inv (F.of 2)).n = 128 := by decide +kernel
  have H1 := Lib.hid e1
  have H2 := Lib.hid e2
  have H3 := Lib.hid e3
  have H4 := Lib.hid e4
  have H5 := Lib.hid e5
  clear e1 e2 e3 e4 e5
  go_enter Try.func45, Try.ntmps45
  go_wp2_with fail
  refine (new_any _).mono ?_
  rintro e w1 ⟨rfl, hF, hB⟩
  go_wp2_with fail
  refine (mul_c _ (F.of 2) (F.of 128) _ hF _ _ rfl rfl).mono ?_
  rintro e w2 ⟨rfl, hd2⟩
  rw [H1.out]
  go_wp2_with fail
  have hF := hF.below hd2.below
  refine (inv_c _ (F.of 2) _ hF _ rfl).mono ?_
  rintro e w3 ⟨rfl, hd3⟩
  rw [H2.out]
  go_wp2_with fail
  have hF := hF.below hd3.below
  refine (add_c (F.of 5) (F.of 3) _ _ _ rfl rfl).mono ?_
  rintro e w4 ⟨rfl, rfl⟩
  rw [H3.out]
  go_wp2_with fail
  refine (pow_c _ (F.of 3) 255 _ hF _ rfl).mono ?_
  rintro e w5 ⟨rfl, hd5⟩
  rw [H4.out]
  go_wp2_with fail
  have hF := hF.below hd5.below
  refine (div_c _ (F.of 27) (F.of 2) _ hF).mono ?_
  rintro e w6 ⟨rfl, hd6⟩
  rw [H5.out]
  go_wp2
  go_ret
  exact ⟨rfl, bd (bd (bd (bd hB hd2) hd3) hd5) hd6⟩

set_option maxHeartbeats 1600000 in
theorem GfMuls_walk (w : World) (x y : F) :
   Calls Try.prog 3 #[.int .u8 (x.n : Int), .int .u8 (y.n : Int)] w fun e w' => e = .returned (.bool true) ∧ Below w.heap.size w w' := by
  have hx := Lib.hid (xor8 x y)
  go_enter Try.func3, Try.ntmps3
  go_wp2_with fail
  refine (new_any _).mono ?_
  rintro e w1 ⟨rfl, hF, hB⟩
  go_wp2_with fail
  refine (add_c x y _ _ _ rfl rfl).mono ?_
  rintro e w2 ⟨rfl, rfl⟩
  rw [← hx.out]
  go_wp2_with fail
  refine (mul_c _ x y _ hF _ _ rfl rfl).mono ?_
  rintro e w2 ⟨rfl, hd2⟩
  go_wp2_with fail
  refine (rMul_c x y _ _ _ rfl rfl).mono ?_
  rintro e w3 ⟨rfl, rfl⟩
  go_wp2_with fail
  have hF := hF.below hd2.below
  refine (inv_c _ x _ hF _ rfl).mono ?_
  rintro e w3 ⟨rfl, hd3⟩
  go_wp2_with fail
  refine (rInv_c x _ _ rfl).mono ?_
  rintro e w4 ⟨rfl, rfl⟩
  go_wp2_with fail
  have hF := hF.below hd3.below
  refine (div_c _ x y _ hF).mono ?_
  rintro e w4 ⟨rfl, hd4⟩
  go_wp2_with fail
  refine (rInv_c y _ _ rfl).mono ?_
  rintro e w5 ⟨rfl, rfl⟩
  go_wp2_with fail
  refine (rMul_c x (F.inv y) _ _ _ rfl rfl).mono ?_
  rintro e w5 ⟨rfl, rfl⟩
  go_wp2_with fail
  refine (alive01 _).mono ?_
  rintro e w5 ⟨rfl, hB5⟩
  go_wp2
  go_ret
  exact ⟨rfl, bt_ (bd (bd (bd hB hd2) hd3) hd4) hB5⟩
end Go.Proofs.Ytijeabhfddaoaaa
