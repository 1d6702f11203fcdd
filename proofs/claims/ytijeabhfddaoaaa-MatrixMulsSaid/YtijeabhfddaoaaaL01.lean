/- The walks of the laws of layer 1. -/
import Derived.Test.YtijeabhfddaoaaaGf
import Derived.Test.YtijeabhfddaoaaaR01
namespace Go.Proofs.Ytijeabhfddaoaaa
open Go.RowKit Go.Proofs.YtijeabhfddaoaaaW.PrintWords Go.Proofs.Sh

set_option maxHeartbeats 800000 in
theorem alive01 (w : World) :
   Calls Try.prog 45 #[] w fun e w' => e = .returned (.bool true) ∧ Below w.heap.size w w' := by
  have e1 : (F.of 2 * F.of 128).n = 27 := by decide +kernel
  have e2 : (F.inv (F.of 2)).n = 141 := by decide +kernel
  have e3 : (F.of 5 + F.of 3).n = 6 := by decide +kernel
  have e4 : (F.pwZ (F.of 3) 255).n = 1 := by decide +kernel
  have e5 : (F.of 27 * F.inv (F.of 2)).n = 128 := by decide +kernel
  have H1 := Lib.hid e1
  have H2 := Lib.hid e2
  have H3 := Lib.hid e3
  have H4 := Lib.hid e4
  have H5 := Lib.hid e5
  clear e1 e2 e3 e4 e5
  go_enter Try.func45, Try.ntmps45
  go_wp2_with fail
  refine (new_any _).mono ?_
  rintro e w1 ⟨rfl, hF, hB⟩
  go_wp2_with fail
  refine (mul_c _ (F.of 2) (F.of 128) _ hF _ _ rfl rfl).mono ?_
  rintro e w2 ⟨rfl, hd2⟩
  rw [H1.out]
  go_wp2_with fail
  have hF := hF.below hd2.below
  refine (inv_c _ (F.of 2) _ hF _ rfl).mono ?_
  rintro e w3 ⟨rfl, hd3⟩
  rw [H2.out]
  go_wp2_with fail
  have hF := hF.below hd3.below
  refine (add_c (F.of 5) (F.of 3) _ _ _ rfl rfl).mono ?_
  rintro e w4 ⟨rfl, rfl⟩
  rw [H3.out]
  go_wp2_with fail
  refine (pow_c _ (F.of 3) 255 _ hF _ rfl).mono ?_
  rintro e w5 ⟨rfl, hd5⟩
  rw [H4.out]
  go_wp2_with fail
  have hF := hF.below hd5.below
  refine (div_c _ (F.of 27) (F.of 2) _ hF).mono ?_
  rintro e w6 ⟨rfl, hd6⟩
  rw [H5.out]
  go_wp2
  go_ret
  exact ⟨rfl, bd (bd (bd (bd hB hd2) hd3) hd5) hd6⟩

set_option maxHeartbeats 1600000 in
theorem GfMuls_walk (w : World) (x y : F) :
   Calls Try.prog 3 #[.int .u8 (x.n : Int), .int .u8 (y.n : Int)] w fun e w' => e = .returned (.bool true) ∧ Below w.heap.size w w' := by
  have hx := Lib.hid (xor8 x y)
  go_enter Try.func3, Try.ntmps3
  go_wp2_with fail
  refine (new_any _).mono ?_
  rintro e w1 ⟨rfl, hF, hB⟩
  go_wp2_with fail
  refine (add_c x y _ _ _ rfl rfl).mono ?_
  rintro e w2 ⟨rfl, rfl⟩
  rw [← hx.out]
  go_wp2_with fail
  refine (mul_c _ x y _ hF _ _ rfl rfl).mono ?_
  rintro e w2 ⟨rfl, hd2⟩
  go_wp2_with fail
  refine (rMul_c x y _ _ _ rfl rfl).mono ?_
  rintro e w3 ⟨rfl, rfl⟩
  go_wp2_with fail
  have hF := hF.below hd2.below
  refine (inv_c _ x _ hF _ rfl).mono ?_
  rintro e w3 ⟨rfl, hd3⟩
  go_wp2_with fail
  refine (rInv_c x _ _ rfl).mono ?_
  rintro e w4 ⟨rfl, rfl⟩
  go_wp2_with fail
  have hF := hF.below hd3.below
  refine (div_c _ x y _ hF).mono ?_
  rintro e w4 ⟨rfl, hd4⟩
  go_wp2_with fail
  refine (rInv_c y _ _ rfl).mono ?_
  rintro e w5 ⟨rfl, rfl⟩
  go_wp2_with fail
  refine (rMul_c x (F.inv y) _ _ _ rfl rfl).mono ?_
  rintro e w5 ⟨rfl, rfl⟩
  go_wp2_with fail
  refine (alive01 _).mono ?_
  rintro e w5 ⟨rfl, hB5⟩
  go_wp2
  go_ret
  exact ⟨rfl, bt_ (bd (bd (bd hB hd2) hd3) hd4) hB5⟩

theorem n_eq0 {x : F} (h : x = 0) : ((x.n : Int) == 0) = true ∧ ((x.n : Int) != 0) = false := by subst h; exact ⟨rfl, rfl⟩
theorem n_ne0 {x : F} (h : x ≠ 0) : ((x.n : Int) == 0) = false ∧ ((x.n : Int) != 0) = true := by
  have := n_beq_zero h
  exact ⟨this, by simp [bne, this]⟩
theorem mul_beq (x y : F) : (((x * y).n : Int) == 0) = (((x.n : Int) == 0) || ((y.n : Int) == 0)) := by
  by_cases hx : x = 0
  · rw [(n_eq0 hx).1, (n_eq0 (by rw [hx, F.zero_mul])).1]; rfl
  by_cases hy : y = 0
  · rw [(n_eq0 hy).1, (n_eq0 (by rw [hy, F.mul_zero])).1]; simp
  rw [(n_ne0 hx).1, (n_ne0 hy).1, (n_ne0 (F.mul_ne hx hy)).1]; rfl
theorem n_cases (x : F) : ∃ b : Bool, ((x.n : Int) == 0) = b ∧ ((x.n : Int) != 0) = !b ∧ (b = false → x ≠ 0) := by
  by_cases h : x = 0
  · exact ⟨true, (n_eq0 h).1, (n_eq0 h).2, fun e => by cases e⟩
  · exact ⟨false, (n_ne0 h).1, (n_ne0 h).2, fun _ => h⟩
set_option maxRecDepth 100000 in
set_option maxHeartbeats 6400000 in
theorem GfField_walk (w : World) (x y z : F) :
   Calls Try.prog 4 #[.int .u8 (x.n : Int), .int .u8 (y.n : Int), .int .u8 (z.n : Int)] w fun e w' => e = .returned (.bool true) ∧ Below w.heap.size w w' := by
  have E1 := Lib.hid (F.mul_assoc x y z)
  have E2 := Lib.hid (F.mul_comm y x)
  have E3 := Lib.hid (F.mul_add x y z)
  have E4 := Lib.hid (F.mul_one x)
  have E5 := Lib.hid (F.mul_zero x)
  have E6 := Lib.hid (F.add_self x)
  have hm := mul_beq x y
  have E7 : Hid (x ≠ 0 → ((x * F.inv x).n : Int) = 1) := Lib.hid (fun h => by rw [F.mul_inv h]; rfl)
  have E8 : Hid (y ≠ 0 → x * F.inv y * y = x) := Lib.hid (fun h => by rw [F.mul_assoc, F.inv_mul h, F.mul_one])
  have Z : Hid (((0 : F).n : Int) = 0) := Lib.hid rfl
  obtain ⟨bx, tx, tx', hx⟩ := n_cases x
  obtain ⟨by', ty, ty', hy⟩ := n_cases y
  rw [tx, ty] at hm
  have HX := Lib.hid hx
  have HY := Lib.hid hy
  clear hx hy
  cases bx
  · cases by'
    · go_enter Try.func4, Try.ntmps4
      go_wp2_with fail
      refine (new_any _).mono ?_
      rintro e w1 ⟨rfl, hF, hB⟩
      go_wp2_with fail
      refine (mul_c _ y z _ hF _ _ rfl rfl).mono ?_
      rintro e w2 ⟨rfl, h2⟩
      have hF := hF.below h2.below
      go_wp2_with fail
      refine (mul_c _ x (y * z) _ hF _ _ rfl rfl).mono ?_
      rintro e w3 ⟨rfl, h3⟩
      have hF := hF.below h3.below
      go_wp2_with fail
      refine (mul_c _ x y _ hF _ _ rfl rfl).mono ?_
      rintro e w4 ⟨rfl, h4⟩
      have hF := hF.below h4.below
      go_wp2_with fail
      refine (mul_c _ (x * y) z _ hF _ _ rfl rfl).mono ?_
      rintro e w5 ⟨rfl, h5⟩
      have hF := hF.below h5.below
      rw [E1.out]
      go_wp2_with fail
      refine (mul_c _ x y _ hF _ _ rfl rfl).mono ?_
      rintro e w6 ⟨rfl, h6⟩
      have hF := hF.below h6.below
      go_wp2_with fail
      refine (mul_c _ y x _ hF _ _ rfl rfl).mono ?_
      rintro e w7 ⟨rfl, h7⟩
      have hF := hF.below h7.below
      rw [E2.out]
      go_wp2_with fail
      refine (add_c y z _ _ _ rfl rfl).mono ?_
      rintro e w_ ⟨rfl, rfl⟩
      go_wp2_with fail
      refine (mul_c _ x (y + z) _ hF _ _ rfl rfl).mono ?_
      rintro e w8 ⟨rfl, h8⟩
      have hF := hF.below h8.below
      rw [E3.out]
      go_wp2_with fail
      refine (mul_c _ x y _ hF _ _ rfl rfl).mono ?_
      rintro e w9 ⟨rfl, h9⟩
      have hF := hF.below h9.below
      go_wp2_with fail
      refine (mul_c _ x z _ hF _ _ rfl rfl).mono ?_
      rintro e w10 ⟨rfl, h10⟩
      have hF := hF.below h10.below
      go_wp2_with fail
      refine (add_c (x * y) (x * z) _ _ _ rfl rfl).mono ?_
      rintro e w_ ⟨rfl, rfl⟩
      go_wp2_with fail
      refine (mul_c _ x 1 _ hF _ _ rfl rfl).mono ?_
      rintro e w11 ⟨rfl, h11⟩
      have hF := hF.below h11.below
      rw [E4.out]
      have hB := bd (bd (bd (bd (bd (bd (bd (bd (bd (bd hB h2) h3) h4) h5) h6) h7) h8) h9) h10) h11
      go_wp2_with fail
      refine (inv_c _ x _ hF _ rfl).mono ?_
      rintro e w12 ⟨rfl, h12⟩
      have hF := hF.below h12.below
      go_wp2_with fail
      refine (mul_c _ x (F.inv x) _ hF _ _ rfl rfl).mono ?_
      rintro e w13 ⟨rfl, h13⟩
      have hF := hF.below h13.below
      rw [E7.out (HX.out (by simp))]
      have hB := bd (bd hB h12) h13
      go_wp2_with fail
      refine (mul_c _ x 0 _ hF _ _ rfl rfl).mono ?_
      rintro e w14 ⟨rfl, h14⟩
      have hF := hF.below h14.below
      rw [E5.out, Z.out]
      go_wp2_with fail
      refine (add_c x x _ _ _ rfl rfl).mono ?_
      rintro e w_ ⟨rfl, rfl⟩
      rw [E6.out, Z.out]
      go_wp2_with fail
      refine (mul_c _ x y _ hF _ _ rfl rfl).mono ?_
      rintro e w15 ⟨rfl, h15⟩
      have hF := hF.below h15.below
      have hB := bd (bd hB h14) h15
      go_wp2_with fail
      refine (div_c _ x y _ hF).mono ?_
      rintro e w16 ⟨rfl, h16⟩
      have hF := hF.below h16.below
      go_wp2_with fail
      refine (mul_c _ (x * F.inv y) y _ hF _ _ rfl rfl).mono ?_
      rintro e w17 ⟨rfl, h17⟩
      have hF := hF.below h17.below
      rw [E8.out (HY.out (by simp))]
      have hB := bd (bd hB h16) h17
      go_wp2_with fail
      refine (alive01 _).mono ?_
      rintro e w18 ⟨rfl, h18⟩
      go_wp2
      go_ret
      exact ⟨rfl, bt_ hB h18⟩
    · go_enter Try.func4, Try.ntmps4
      go_wp2_with fail
      refine (new_any _).mono ?_
      rintro e w1 ⟨rfl, hF, hB⟩
      go_wp2_with fail
      refine (mul_c _ y z _ hF _ _ rfl rfl).mono ?_
      rintro e w2 ⟨rfl, h2⟩
      have hF := hF.below h2.below
      go_wp2_with fail
      refine (mul_c _ x (y * z) _ hF _ _ rfl rfl).mono ?_
      rintro e w3 ⟨rfl, h3⟩
      have hF := hF.below h3.below
      go_wp2_with fail
      refine (mul_c _ x y _ hF _ _ rfl rfl).mono ?_
      rintro e w4 ⟨rfl, h4⟩
      have hF := hF.below h4.below
      go_wp2_with fail
      refine (mul_c _ (x * y) z _ hF _ _ rfl rfl).mono ?_
      rintro e w5 ⟨rfl, h5⟩
      have hF := hF.below h5.below
      rw [E1.out]
      go_wp2_with fail
      refine (mul_c _ x y _ hF _ _ rfl rfl).mono ?_
      rintro e w6 ⟨rfl, h6⟩
      have hF := hF.below h6.below
      go_wp2_with fail
      refine (mul_c _ y x _ hF _ _ rfl rfl).mono ?_
      rintro e w7 ⟨rfl, h7⟩
      have hF := hF.below h7.below
      rw [E2.out]
      go_wp2_with fail
      refine (add_c y z _ _ _ rfl rfl).mono ?_
      rintro e w_ ⟨rfl, rfl⟩
      go_wp2_with fail
      refine (mul_c _ x (y + z) _ hF _ _ rfl rfl).mono ?_
      rintro e w8 ⟨rfl, h8⟩
      have hF := hF.below h8.below
      rw [E3.out]
      go_wp2_with fail
      refine (mul_c _ x y _ hF _ _ rfl rfl).mono ?_
      rintro e w9 ⟨rfl, h9⟩
      have hF := hF.below h9.below
      go_wp2_with fail
      refine (mul_c _ x z _ hF _ _ rfl rfl).mono ?_
      rintro e w10 ⟨rfl, h10⟩
      have hF := hF.below h10.below
      go_wp2_with fail
      refine (add_c (x * y) (x * z) _ _ _ rfl rfl).mono ?_
      rintro e w_ ⟨rfl, rfl⟩
      go_wp2_with fail
      refine (mul_c _ x 1 _ hF _ _ rfl rfl).mono ?_
      rintro e w11 ⟨rfl, h11⟩
      have hF := hF.below h11.below
      rw [E4.out]
      have hB := bd (bd (bd (bd (bd (bd (bd (bd (bd (bd hB h2) h3) h4) h5) h6) h7) h8) h9) h10) h11
      go_wp2_with fail
      refine (inv_c _ x _ hF _ rfl).mono ?_
      rintro e w12 ⟨rfl, h12⟩
      have hF := hF.below h12.below
      go_wp2_with fail
      refine (mul_c _ x (F.inv x) _ hF _ _ rfl rfl).mono ?_
      rintro e w13 ⟨rfl, h13⟩
      have hF := hF.below h13.below
      rw [E7.out (HX.out (by simp))]
      have hB := bd (bd hB h12) h13
      go_wp2_with fail
      refine (mul_c _ x 0 _ hF _ _ rfl rfl).mono ?_
      rintro e w14 ⟨rfl, h14⟩
      have hF := hF.below h14.below
      rw [E5.out, Z.out]
      go_wp2_with fail
      refine (add_c x x _ _ _ rfl rfl).mono ?_
      rintro e w_ ⟨rfl, rfl⟩
      rw [E6.out, Z.out]
      go_wp2_with fail
      refine (mul_c _ x y _ hF _ _ rfl rfl).mono ?_
      rintro e w15 ⟨rfl, h15⟩
      have hF := hF.below h15.below
      have hB := bd (bd hB h14) h15
      go_wp2_with fail
      refine (alive01 _).mono ?_
      rintro e w18 ⟨rfl, h18⟩
      go_wp2
      go_ret
      exact ⟨rfl, bt_ hB h18⟩
  · cases by'
    · go_enter Try.func4, Try.ntmps4
      go_wp2_with fail
      refine (new_any _).mono ?_
      rintro e w1 ⟨rfl, hF, hB⟩
      go_wp2_with fail
      refine (mul_c _ y z _ hF _ _ rfl rfl).mono ?_
      rintro e w2 ⟨rfl, h2⟩
      have hF := hF.below h2.below
      go_wp2_with fail
      refine (mul_c _ x (y * z) _ hF _ _ rfl rfl).mono ?_
      rintro e w3 ⟨rfl, h3⟩
      have hF := hF.below h3.below
      go_wp2_with fail
      refine (mul_c _ x y _ hF _ _ rfl rfl).mono ?_
      rintro e w4 ⟨rfl, h4⟩
      have hF := hF.below h4.below
      go_wp2_with fail
      refine (mul_c _ (x * y) z _ hF _ _ rfl rfl).mono ?_
      rintro e w5 ⟨rfl, h5⟩
      have hF := hF.below h5.below
      rw [E1.out]
      go_wp2_with fail
      refine (mul_c _ x y _ hF _ _ rfl rfl).mono ?_
      rintro e w6 ⟨rfl, h6⟩
      have hF := hF.below h6.below
      go_wp2_with fail
      refine (mul_c _ y x _ hF _ _ rfl rfl).mono ?_
      rintro e w7 ⟨rfl, h7⟩
      have hF := hF.below h7.below
      rw [E2.out]
      go_wp2_with fail
      refine (add_c y z _ _ _ rfl rfl).mono ?_
      rintro e w_ ⟨rfl, rfl⟩
      go_wp2_with fail
      refine (mul_c _ x (y + z) _ hF _ _ rfl rfl).mono ?_
      rintro e w8 ⟨rfl, h8⟩
      have hF := hF.below h8.below
      rw [E3.out]
      go_wp2_with fail
      refine (mul_c _ x y _ hF _ _ rfl rfl).mono ?_
      rintro e w9 ⟨rfl, h9⟩
      have hF := hF.below h9.below
      go_wp2_with fail
      refine (mul_c _ x z _ hF _ _ rfl rfl).mono ?_
      rintro e w10 ⟨rfl, h10⟩
      have hF := hF.below h10.below
      go_wp2_with fail
      refine (add_c (x * y) (x * z) _ _ _ rfl rfl).mono ?_
      rintro e w_ ⟨rfl, rfl⟩
      go_wp2_with fail
      refine (mul_c _ x 1 _ hF _ _ rfl rfl).mono ?_
      rintro e w11 ⟨rfl, h11⟩
      have hF := hF.below h11.below
      rw [E4.out]
      have hB := bd (bd (bd (bd (bd (bd (bd (bd (bd (bd hB h2) h3) h4) h5) h6) h7) h8) h9) h10) h11
      go_wp2_with fail
      refine (mul_c _ x 0 _ hF _ _ rfl rfl).mono ?_
      rintro e w14 ⟨rfl, h14⟩
      have hF := hF.below h14.below
      rw [E5.out, Z.out]
      go_wp2_with fail
      refine (add_c x x _ _ _ rfl rfl).mono ?_
      rintro e w_ ⟨rfl, rfl⟩
      rw [E6.out, Z.out]
      go_wp2_with fail
      refine (mul_c _ x y _ hF _ _ rfl rfl).mono ?_
      rintro e w15 ⟨rfl, h15⟩
      have hF := hF.below h15.below
      have hB := bd (bd hB h14) h15
      go_wp2_with fail
      refine (div_c _ x y _ hF).mono ?_
      rintro e w16 ⟨rfl, h16⟩
      have hF := hF.below h16.below
      go_wp2_with fail
      refine (mul_c _ (x * F.inv y) y _ hF _ _ rfl rfl).mono ?_
      rintro e w17 ⟨rfl, h17⟩
      have hF := hF.below h17.below
      rw [E8.out (HY.out (by simp))]
      have hB := bd (bd hB h16) h17
      go_wp2_with fail
      refine (alive01 _).mono ?_
      rintro e w18 ⟨rfl, h18⟩
      go_wp2
      go_ret
      exact ⟨rfl, bt_ hB h18⟩
    · go_enter Try.func4, Try.ntmps4
      go_wp2_with fail
      refine (new_any _).mono ?_
      rintro e w1 ⟨rfl, hF, hB⟩
      go_wp2_with fail
      refine (mul_c _ y z _ hF _ _ rfl rfl).mono ?_
      rintro e w2 ⟨rfl, h2⟩
      have hF := hF.below h2.below
      go_wp2_with fail
      refine (mul_c _ x (y * z) _ hF _ _ rfl rfl).mono ?_
      rintro e w3 ⟨rfl, h3⟩
      have hF := hF.below h3.below
      go_wp2_with fail
      refine (mul_c _ x y _ hF _ _ rfl rfl).mono ?_
      rintro e w4 ⟨rfl, h4⟩
      have hF := hF.below h4.below
      go_wp2_with fail
      refine (mul_c _ (x * y) z _ hF _ _ rfl rfl).mono ?_
      rintro e w5 ⟨rfl, h5⟩
      have hF := hF.below h5.below
      rw [E1.out]
      go_wp2_with fail
      refine (mul_c _ x y _ hF _ _ rfl rfl).mono ?_
      rintro e w6 ⟨rfl, h6⟩
      have hF := hF.below h6.below
      go_wp2_with fail
      refine (mul_c _ y x _ hF _ _ rfl rfl).mono ?_
      rintro e w7 ⟨rfl, h7⟩
      have hF := hF.below h7.below
      rw [E2.out]
      go_wp2_with fail
      refine (add_c y z _ _ _ rfl rfl).mono ?_
      rintro e w_ ⟨rfl, rfl⟩
      go_wp2_with fail
      refine (mul_c _ x (y + z) _ hF _ _ rfl rfl).mono ?_
      rintro e w8 ⟨rfl, h8⟩
      have hF := hF.below h8.below
      rw [E3.out]
      go_wp2_with fail
      refine (mul_c _ x y _ hF _ _ rfl rfl).mono ?_
      rintro e w9 ⟨rfl, h9⟩
      have hF := hF.below h9.below
      go_wp2_with fail
      refine (mul_c _ x z _ hF _ _ rfl rfl).mono ?_
      rintro e w10 ⟨rfl, h10⟩
      have hF := hF.below h10.below
      go_wp2_with fail
      refine (add_c (x * y) (x * z) _ _ _ rfl rfl).mono ?_
      rintro e w_ ⟨rfl, rfl⟩
      go_wp2_with fail
      refine (mul_c _ x 1 _ hF _ _ rfl rfl).mono ?_
      rintro e w11 ⟨rfl, h11⟩
      have hF := hF.below h11.below
      rw [E4.out]
      have hB := bd (bd (bd (bd (bd (bd (bd (bd (bd (bd hB h2) h3) h4) h5) h6) h7) h8) h9) h10) h11
      go_wp2_with fail
      refine (mul_c _ x 0 _ hF _ _ rfl rfl).mono ?_
      rintro e w14 ⟨rfl, h14⟩
      have hF := hF.below h14.below
      rw [E5.out, Z.out]
      go_wp2_with fail
      refine (add_c x x _ _ _ rfl rfl).mono ?_
      rintro e w_ ⟨rfl, rfl⟩
      rw [E6.out, Z.out]
      go_wp2_with fail
      refine (mul_c _ x y _ hF _ _ rfl rfl).mono ?_
      rintro e w15 ⟨rfl, h15⟩
      have hF := hF.below h15.below
      have hB := bd (bd hB h14) h15
      go_wp2_with fail
      refine (alive01 _).mono ?_
      rintro e w18 ⟨rfl, h18⟩
      go_wp2
      go_ret
      exact ⟨rfl, bt_ hB h18⟩

set_option maxRecDepth 100000 in
set_option maxHeartbeats 1600000 in
theorem GfPowers_walk (w : World) (x : F) (n : Int) (hn : -9223372036854775808 ≤ n ∧ n ≤ 9223372036854775807) (m : Int) (hm : -32768 ≤ m ∧ m ≤ 32767) :
   Calls Try.prog 5 #[.int .u8 (x.n : Int), .int .i64 n, .int .i16 m] w fun e w' => e = .returned (.bool true) ∧ Below w.heap.size w w' := by
  obtain ⟨hm1, hm2⟩ := hm
  have E1 : Hid (x ≠ 0 → F.pwZ x m * F.pwZ x 7 = F.pwZ x (m + 7)) := Lib.hid (fun h => F.pwZ_add h m 7)
  obtain ⟨bx, tx, tx', hx⟩ := n_cases x
  have HX := Lib.hid hx
  clear hx
  cases bx
  · go_enter Try.func5, Try.ntmps5
    go_wp2_with fail
    refine (new_any _).mono ?_
    rintro e w1 ⟨rfl, hF, hB⟩
    go_wp2_with fail
    refine (pow_c _ x n _ hF _ rfl).mono ?_
    rintro e w2 ⟨rfl, h2⟩
    have hF := hF.below h2.below
    go_wp2_with fail
    refine (rRaise_c x n hn.1 (by omega) _).mono ?_
    rintro e w_ ⟨rfl, rfl⟩
    go_wp2_with fail
    refine (pow_c _ x m _ hF _ rfl).mono ?_
    rintro e w3 ⟨rfl, h3⟩
    have hF := hF.below h3.below
    go_wp2_with fail
    refine (pow_c _ x 7 _ hF _ rfl).mono ?_
    rintro e w4 ⟨rfl, h4⟩
    have hF := hF.below h4.below
    go_wp2_with fail
    refine (mul_c _ _ _ _ hF _ _ rfl rfl).mono ?_
    rintro e w5 ⟨rfl, h5⟩
    have hF := hF.below h5.below
    go_wp2_with fail
    refine (pow_c _ x (m + 7) _ hF _ rfl).mono ?_
    rintro e w6 ⟨rfl, h6⟩
    have hF := hF.below h6.below
    rw [E1.out (HX.out (by simp))]
    go_wp2_with fail
    refine (alive01 _).mono ?_
    rintro e w7 ⟨rfl, h7⟩
    go_wp2
    go_ret
    exact ⟨rfl, bt_ (bd (bd (bd (bd (bd hB h2) h3) h4) h5) h6) h7⟩
  · go_enter Try.func5, Try.ntmps5
    go_wp2_with fail
    refine (new_any _).mono ?_
    rintro e w1 ⟨rfl, hF, hB⟩
    go_wp2_with fail
    refine (pow_c _ x n _ hF _ rfl).mono ?_
    rintro e w2 ⟨rfl, h2⟩
    have hF := hF.below h2.below
    go_wp2_with fail
    refine (rRaise_c x n hn.1 (by omega) _).mono ?_
    rintro e w_ ⟨rfl, rfl⟩
    go_wp2_with fail
    refine (alive01 _).mono ?_
    rintro e w7 ⟨rfl, h7⟩
    go_wp2
    go_ret
    exact ⟨rfl, bt_ (bd hB h2) h7⟩

set_option maxRecDepth 100000 in
set_option maxHeartbeats 1600000 in
theorem GfDots_walk (w : World) (v : Value) (l : List F) (hv : Rb w v l) (u : Value) (m : List F) (hu : Rb w u m) :
   Calls Try.prog 7 #[v, u] w fun e w' => e = .returned (.bool true) ∧ Below w.heap.size w w' := by
  obtain ⟨A, c, rfl, hc, hr⟩ := hv
  obtain ⟨B, d, rfl, hd, hs⟩ := hu
  by_cases h1 : 300 < l.length
  · have t1 : (300 : Int) < (l.length : Int) := by omega
    go_enter Try.func7, Try.ntmps7
    go_wp2_with fail
    refine (alive01 _).mono ?_
    rintro e w7 ⟨rfl, h7⟩
    go_wp2
    go_ret
    exact ⟨rfl, h7⟩
  by_cases h2 : 300 < m.length
  · have t1 : decide ((300 : Int) < (l.length : Int)) = false := decide_eq_false (by omega)
    have t2 : (300 : Int) < (m.length : Int) := by omega
    go_enter Try.func7, Try.ntmps7
    go_wp2_with fail
    refine (alive01 _).mono ?_
    rintro e w7 ⟨rfl, h7⟩
    go_wp2
    go_ret
    exact ⟨rfl, h7⟩
  · have t1 : decide ((300 : Int) < (l.length : Int)) = false := decide_eq_false (by omega)
    have t2 : decide ((300 : Int) < (m.length : Int)) = false := decide_eq_false (by omega)
    have hv : Rb w (.slice A l.length c) l := ⟨A, c, rfl, hc, hr⟩
    have hu : Rb w (.slice B m.length d) m := ⟨B, d, rfl, hd, hs⟩
    clear h1 h2
    go_enter Try.func7, Try.ntmps7
    go_wp2_with fail
    refine (new_any _).mono ?_
    rintro e w1 ⟨rfl, hF, hB⟩
    have hv := hv.below hB
    have hu := hu.below hB
    go_wp2_with fail
    refine (fDot_c _ _ _ l m _ hF hv hu).mono ?_
    rintro e w2 ⟨rfl, h2⟩
    have hv := hv.drawn h2
    have hu := hu.drawn h2
    go_wp2_with fail
    refine (rDot_c _ _ l m _ hv hu).mono ?_
    rintro e w3 ⟨rfl, h3⟩
    have hv := hv.drawn h3
    have hu := hu.drawn h3
    go_wp2_with fail
    refine (fDot_nil _ _ l m _ hv hu).mono ?_
    rintro e w4 ⟨rfl, h4⟩
    go_wp2_with fail
    refine (mul_nil _ _ _).mono ?_
    rintro e w_ ⟨rfl, rfl⟩
    go_wp2_with fail
    refine (inv_nil _ _).mono ?_
    rintro e w_ ⟨rfl, rfl⟩
    go_wp2_with fail
    refine (pow_nil _ _ _).mono ?_
    rintro e w_ ⟨rfl, rfl⟩
    go_wp2_with fail
    refine (div_nil _ _ _).mono ?_
    rintro e w_ ⟨rfl, rfl⟩
    go_wp2_with fail
    refine (alive01 _).mono ?_
    rintro e w7 ⟨rfl, h7⟩
    go_wp2
    go_ret
    exact ⟨rfl, bt_ (bd (bd (bd hB h2) h3) h4) h7⟩
end Go.Proofs.Ytijeabhfddaoaaa
