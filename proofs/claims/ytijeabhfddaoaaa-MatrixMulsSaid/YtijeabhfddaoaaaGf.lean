/- The walks of package gf: a field's tables in memory, products, inverses, quotients, powers, sums of products. -/
import Derived.Test.YtijeabhfddaoaaaK4
namespace Go.Proofs.Ytijeabhfddaoaaa
open Go.RowKit Go.Proofs.YtijeabhfddaoaaaW.PrintWords Go.Proofs.Sh

/-- A field's tables lie in block b. -/
structure IsField (w : World) (b : Nat) : Prop where
  exp : ∀ i : Nat, i < 510 → w.cell? ⟨b, i, none⟩ = some (.int .u8 (F.expAt i : Nat))
  log : ∀ i : Nat, i < 256 → w.cell? ⟨b, 510 + i, none⟩ = some (.int .i64 (F.logAt i : Nat))
theorem IsField.lt {w : World} {b : Nat} (h : IsField w b) : b < w.heap.size := World.block_lt_of_cell? w _ (h.exp 0 (by omega))
theorem IsField.below {w w' : World} {b : Nat} (h : IsField w b) (hb : Below w.heap.size w w') : IsField w' b :=
  ⟨fun i hi => pw_cell_below hb (h.exp i hi), fun i hi => pw_cell_below hb (h.log i hi)⟩
theorem IsField.drew {w : World} {b : Nat} (h : IsField w b) : IsField w.drew b := ⟨h.exp, h.log⟩
theorem IsField.drewN {w : World} {b : Nat} (h : IsField w b) (n : Nat) : IsField (w.drewN n) b := ⟨h.exp, h.log⟩
/-- A pointer to a field. -/
abbrev fp (b : Nat) : Value := .pointer (some ⟨b, 0, none⟩)

/-! ### gf.New -/
def newE (i j : Nat) : Nat := if j % 255 < i then F.expAt j else 0
def newL (i a : Nat) : Nat := if a ≠ 0 ∧ F.logAt a < i then F.logAt a else 0
structure NewRel (fb i : Nat) (w : World) : Prop where
  exp : ∀ j : Nat, j < 510 → w.cell? ⟨fb, j, none⟩ = some (.int .u8 (newE i j : Nat))
  log : ∀ a : Nat, a < 256 → w.cell? ⟨fb, 510 + a, none⟩ = some (.int .i64 (newL i a : Nat))
  fr : ∀ o : Nat, w.frozen? ⟨fb, o, none⟩ = false
theorem zero87 : Try.zeroCells146 = ((List.replicate 510 (Value.int .u8 0)) ++ (List.replicate 256 (Value.int .i64 0))).toArray := by kernel_rfl
theorem new_start (w : World) : NewRel w.heap.size 0 (w.alloc (.cells Try.zeroCells146 146)) := by
  rw [zero87]
  refine ⟨fun j hj => ?_, fun a ha => ?_, fun o => World.frozen?_alloc_new ..⟩
  · rw [World.cell?_alloc_new]
    rw [List.getElem?_toArray, List.getElem?_append_left (by rw [List.length_replicate]; exact hj), List.getElem?_replicate, if_pos hj]
    unfold newE
    rw [if_neg (Nat.not_lt_zero _)]
    rfl
  · rw [World.cell?_alloc_new]
    rw [List.getElem?_toArray, List.getElem?_append_right (by rw [List.length_replicate]; omega), List.getElem?_replicate, List.length_replicate, if_pos (by omega)]
    unfold newL
    rw [if_neg (fun h => Nat.not_lt_zero _ h.2)]
    rfl
theorem new_done {fb : Nat} {w : World} (h : NewRel fb 255 w) : IsField w fb := by
  refine ⟨fun i hi => ?_, fun a ha => ?_⟩
  · rw [h.exp i hi]
    unfold newE
    rw [if_pos (Nat.mod_lt _ (by decide))]
  · rw [h.log a ha]
    unfold newL
    by_cases e : a = 0
    · subst e; rfl
    · rw [if_pos ⟨e, (F.exp_log e ha).2⟩]
theorem new_step {fb k : Nat} {w : World} (h : NewRel fb k w) (hk : k < 255) {w' : World}
    (hw : w' = ((w.setCell ⟨fb, k, none⟩ (.int .u8 (F.expAt k : Nat))).setCell ⟨fb, k + 255, none⟩ (.int .u8 (F.expAt k : Nat))).setCell ⟨fb, 510 + F.expAt k, none⟩ (.int .i64 (k : Nat)) ) : NewRel fb (k + 1) w' := by
  subst hw
  have hx := F.expAt_lt k
  have hx0 := F.exp_pos hk
  have hle := F.log_exp hk
  refine ⟨fun j hj => ?_, fun a ha => ?_, fun o => ?_⟩
  · rw [cell_set_ne (by omega)]
    by_cases e1 : j = k + 255
    · subst e1
      rw [cell_set_same (u := .int .u8 (newE k (k + 255) : Nat)) (by rw [cell_set_ne (by omega)]; exact h.exp _ hj)]
      unfold newE
      rw [if_pos (by omega), F.exp_again hk]
    · rw [cell_set_ne (Ne.symm e1)]
      by_cases e2 : j = k
      · subst e2
        rw [cell_set_same (h.exp _ hj)]
        unfold newE
        rw [if_pos (by omega)]
      · rw [cell_set_ne (Ne.symm e2), h.exp j hj]
        unfold newE
        by_cases e3 : j % 255 < k
        · rw [if_pos e3, if_pos (by omega)]
        · rw [if_neg e3, if_neg (by omega)]
  · by_cases e1 : a = F.expAt k
    · subst e1
      rw [cell_set_same (u := .int .i64 (newL k (F.expAt k) : Nat)) (by rw [cell_set_ne (by omega), cell_set_ne (by omega)]; exact h.log _ ha)]
      unfold newL
      rw [hle, if_pos ⟨by omega, by omega⟩]
    · rw [cell_set_ne (by omega), cell_set_ne (by omega), cell_set_ne (by omega), h.log a ha]
      unfold newL
      by_cases e2 : a = 0
      · rw [if_neg (fun h => h.1 e2), if_neg (fun h => h.1 e2)]
      · have e3 : F.logAt a ≠ k := fun e => e1 (by rw [← e, (F.exp_log e2 ha).1])
        by_cases e4 : F.logAt a < k
        · rw [if_pos ⟨e2, e4⟩, if_pos ⟨e2, by omega⟩]
        · rw [if_neg (fun h => e4 h.2), if_neg (fun h => by omega)]
  · rw [frozen_set, frozen_set, frozen_set]
    exact h.fr o
theorem shl1 (x : Nat) (hx : x < 256) : Go.bits .xor .i64 (x : Int) ((x * 2 : Nat) : Int) = ((x ^^^ x * 2 : Nat) : Int) := i64_xor_nat _ _ (by omega) (by omega)
theorem pow_step (k : Nat) (hk : k < 255) : F.expAt (k + 1) = (let y := F.expAt k ^^^ (F.expAt k * 2); if 255 < y then y ^^^ 283 else y) := by
  rw [F.powers (by omega), F.powers (by omega)]
  rfl
set_option maxRecDepth 100000 in
set_option maxHeartbeats 800000 in
theorem new_any (w : World) :
   Calls Try.prog 38 #[] w fun e w' => e = .returned (fp w.heap.size) ∧ IsField w' w.heap.size ∧ Below w.heap.size w w' := by
  have hs := new_start w
  go_enter Try.func38, Try.ntmps38
  go_wp2
  have hb : Below w.heap.size w (w.alloc (.cells Try.zeroCells146 146)) := (Below.refl _ _).alloc (Nat.le_refl _) _
  obtain ⟨w1, hw1⟩ : ∃ w1, w1 = w.alloc (.cells Try.zeroCells146 146) := ⟨_, rfl⟩
  rw [← hw1] at hs hb ⊢
  clear hw1
  go_loopw [2, 6] (fun x i wr => ∃ k : Nat, k ≤ 255 ∧ i = .int .i64 k ∧ x = .int .i64 (F.expAt k : Nat) ∧ NewRel w.heap.size k wr ∧ Below w.heap.size w wr) (fun _ i _ => 255 - (intOf i).toNat)
  case atStart => exact ⟨0, by omega, rfl, rfl, hs, hb⟩
  case round =>
    obtain ⟨k, hk, rfl, rfl, hr, hB⟩ := hrel
    by_cases hlt : k < 255
    · have hx := F.expAt_lt k
      have hx' : (F.expAt k : Int) < 256 := by omega
      have c1 := hr.exp k (by omega)
      have c2 := hr.exp (k + 255) (by omega)
      have c3 := hr.log (F.expAt k) hx
      have f1 := hr.fr k
      have f2 := hr.fr (k + 255)
      have f3 := hr.fr (510 + F.expAt k)
      go_wp2
      go_region
      have hB' : Below w.heap.size w ((((wr.setCell ⟨w.heap.size, k, none⟩ (.int .u8 (F.expAt k : Nat))).setCell ⟨w.heap.size, k + 255, none⟩ (.int .u8 (F.expAt k : Nat))).setCell ⟨w.heap.size, 510 + F.expAt k, none⟩ (.int .i64 (k : Nat))).drew) :=
        (((hB.setCell (Nat.le_refl _) _).setCell (Nat.le_refl _) _).setCell (Nat.le_refl _) _).drew
      have hr' := new_step hr hlt rfl
      have hp := pow_step k hlt
      have hy : F.expAt k ^^^ F.expAt k * 2 < 2 ^ 9 := Nat.xor_lt_two_pow (by omega) (by omega)
      go_wp2
      all_goals
        have e1 := shl1 (F.expAt k) hx
        rename_i ht
        rw [Int.natCast_mul] at e1
        simp only [Int.cast_ofNat_Int] at e1
        rw [e1] at ht ⊢
      · have e2 : Go.bits .xor .i64 ((F.expAt k ^^^ F.expAt k * 2 : Nat) : Int) 283 = (((F.expAt k ^^^ F.expAt k * 2) ^^^ 283 : Nat) : Int) := i64_xor_nat _ 283 (by omega) (by omega)
        rw [e2]
        refine ⟨⟨k + 1, by omega, by go_num, ?_, ⟨hr'.exp, hr'.log, hr'.fr⟩, hB'⟩, by simp [intOf]; omega⟩
        rw [hp]
        simp only
        rw [if_pos (by omega)]
      · refine ⟨⟨k + 1, by omega, by go_num, ?_, ⟨hr'.exp, hr'.log, hr'.fr⟩, hB'⟩, by simp [intOf]; omega⟩
        rw [hp]
        simp only
        rw [if_neg (by omega)]
    · have hk' : k = 255 := by omega
      subst hk'
      go_wp2
      go_ret
      exact ⟨rfl, new_done hr, hB⟩

/-! ### sums, products -/
set_option maxHeartbeats 400000 in
theorem add_c (x y : F) (w : World) (X Y : Int) (hX : X = x.n) (hY : Y = y.n) :
   Calls Try.prog 39 #[.int .u8 X, .int .u8 Y] w fun e w' => e = .returned (.int .u8 ((x + y).n : Int)) ∧ w = w' := by
  subst hX; subst hY
  have h := Lib.hid (xor8 x y)
  go_enter Try.func39, Try.ntmps39
  go_wp2
  go_ret
  rw [← h.out]
  exact ⟨rfl, rfl⟩
theorem n_beq_zero {x : F} (h : x ≠ 0) : ((x.n : Int) == 0) = false := beq_eq_false_iff_ne.2 (by have := F.n_pos h; omega)
set_option maxHeartbeats 400000 in
theorem mul_pos (b : Nat) (x y : F) (w : World) (hF : IsField w b) (hx : x ≠ 0) (hy : y ≠ 0) :
   Calls Try.prog 40 #[fp b, .int .u8 (x.n : Int), .int .u8 (y.n : Int)] w fun e w' => e = .returned (.int .u8 ((x * y).n : Int)) ∧ Drawn0 w w' := by
  have l1 := F.lg_lt hx
  have l2 := F.lg_lt hy
  have c1 := hF.log x.n x.n_lt
  have c2 := hF.log y.n y.n_lt
  have c3 := hF.exp (x.lg + y.lg) (by omega)
  have hr : F.expAt (x.lg + y.lg) = (x * y).n := by rw [F.mul_eq hx hy, F.ex_n, ← F.exp_mod (by omega)]
  rw [hr] at c3
  generalize (x * y).n = r at *
  change w.cell? _ = some (.int .i64 (x.lg : Int)) at c1
  change w.cell? _ = some (.int .i64 (y.lg : Int)) at c2
  have b1 := n_beq_zero hx
  have b2 := n_beq_zero hy
  have n1 := n_ge x
  have n2 := n_ge y
  have n3 := n_lt' x
  have n4 := n_lt' y
  generalize x.lg = lx at *
  generalize y.lg = ly at *
  clear hr hF hx hy
  go_enter Try.func40, Try.ntmps40
  go_wp2
  go_quiet (fail)
  go_wp2
  go_ret
  exact ⟨rfl, ⟨_, rfl⟩⟩
set_option maxHeartbeats 400000 in
theorem mul_zero_l (b : Nat) (y : F) (w : World) :
   Calls Try.prog 40 #[fp b, .int .u8 0, .int .u8 (y.n : Int)] w fun e w' => e = .returned (.int .u8 0) ∧ w = w' := by
  go_enter Try.func40, Try.ntmps40
  go_wp2
  go_ret
  exact ⟨rfl, rfl⟩
set_option maxHeartbeats 400000 in
theorem mul_zero_r (b : Nat) (x : F) (hx : x ≠ 0) (w : World) :
   Calls Try.prog 40 #[fp b, .int .u8 (x.n : Int), .int .u8 0] w fun e w' => e = .returned (.int .u8 0) ∧ w = w' := by
  have b1 := n_beq_zero hx
  go_enter Try.func40, Try.ntmps40
  go_wp2
  go_ret
  exact ⟨rfl, rfl⟩
/-- (*Field).Mul tells the product. -/
theorem mul_c (b : Nat) (x y : F) (w : World) (hF : IsField w b) (X Y : Int) (hX : X = x.n) (hY : Y = y.n) :
   Calls Try.prog 40 #[fp b, .int .u8 X, .int .u8 Y] w fun e w' => e = .returned (.int .u8 ((x * y).n : Int)) ∧ Drawn0 w w' := by
  subst hX; subst hY
  by_cases hx : x = 0
  · subst hx
    exact (mul_zero_l b y w).mono fun e w' h => ⟨by rw [h.1, F.zero_mul]; rfl, h.2 ▸ Drawn0.refl _⟩
  by_cases hy : y = 0
  · subst hy
    exact (mul_zero_r b x hx w).mono fun e w' h => ⟨by rw [h.1, F.mul_zero]; rfl, h.2 ▸ Drawn0.refl _⟩
  exact mul_pos b x y w hF hx hy
set_option maxHeartbeats 400000 in
/-- Of no field the product is 0. -/
theorem mul_nil (X Y : Int) (w : World) :
   Calls Try.prog 40 #[.pointer none, .int .u8 X, .int .u8 Y] w fun e w' => e = .returned (.int .u8 0) ∧ w = w' := by
  go_enter Try.func40, Try.ntmps40
  go_wp2
  go_ret
  exact ⟨rfl, rfl⟩

/-! ### inverses, quotients -/
set_option maxHeartbeats 400000 in
theorem inv_pos (b : Nat) (x : F) (w : World) (hF : IsField w b) (hx : x ≠ 0) :
   Calls Try.prog 42 #[fp b, .int .u8 (x.n : Int)] w fun e w' => e = .returned (.int .u8 ((F.inv x).n : Int)) ∧ Drawn0 w w' := by
  have l1 := F.lg_lt hx
  have c1 := hF.log x.n x.n_lt
  have c3 := hF.exp (255 - x.lg) (by omega)
  have hr : F.expAt (255 - x.lg) = (F.inv x).n := by unfold F.inv; rw [if_neg hx, F.ex_n, ← F.exp_mod (by omega)]
  rw [hr] at c3
  generalize (F.inv x).n = r at *
  change w.cell? _ = some (.int .i64 (x.lg : Int)) at c1
  have b1 := n_beq_zero hx
  have n1 := n_ge x
  have n3 := n_lt' x
  obtain ⟨m, hm⟩ : ∃ m : Nat, (m : Int) = 255 - (x.lg : Int) := ⟨255 - x.lg, by omega⟩
  have hm' : 255 - x.lg = m := by omega
  rw [hm'] at c3
  generalize x.lg = lx at *
  have hM := Lib.hid hm
  have l0 : (m : Int) ≤ 255 := by omega
  have l3 : (255 - (lx : Int)).toNat = m := by omega
  clear hr hF hx hm hm'
  go_enter Try.func42, Try.ntmps42
  go_wp2
  go_quiet (fail)
  go_wp2
  go_ret
  exact ⟨rfl, ⟨_, rfl⟩⟩
set_option maxHeartbeats 400000 in
theorem inv_zero_c (b : Nat) (w : World) :
   Calls Try.prog 42 #[fp b, .int .u8 0] w fun e w' => e = .returned (.int .u8 0) ∧ w = w' := by
  go_enter Try.func42, Try.ntmps42
  go_wp2
  go_ret
  exact ⟨rfl, rfl⟩
/-- (*Field).Inv tells the inverse. -/
theorem inv_c (b : Nat) (x : F) (w : World) (hF : IsField w b) (X : Int) (hX : X = x.n) :
   Calls Try.prog 42 #[fp b, .int .u8 X] w fun e w' => e = .returned (.int .u8 ((F.inv x).n : Int)) ∧ Drawn0 w w' := by
  subst hX
  by_cases hx : x = 0
  · subst hx
    exact (inv_zero_c b w).mono fun e w' h => ⟨by rw [h.1, F.inv_zero]; rfl, h.2 ▸ Drawn0.refl _⟩
  exact inv_pos b x w hF hx
set_option maxHeartbeats 400000 in
/-- Of no field the inverse is 0. -/
theorem inv_nil (X : Int) (w : World) :
   Calls Try.prog 42 #[.pointer none, .int .u8 X] w fun e w' => e = .returned (.int .u8 0) ∧ w = w' := by
  go_enter Try.func42, Try.ntmps42
  go_wp2
  go_ret
  exact ⟨rfl, rfl⟩
set_option maxHeartbeats 400000 in
/-- (*Field).Div tells the quotient. -/
theorem div_c (b : Nat) (x y : F) (w : World) (hF : IsField w b) :
   Calls Try.prog 44 #[fp b, .int .u8 (x.n : Int), .int .u8 (y.n : Int)] w fun e w' => e = .returned (.int .u8 ((x * F.inv y).n : Int)) ∧ Drawn0 w w' := by
  go_enter Try.func44, Try.ntmps44
  go_wp2_with fail
  refine (inv_c b y w hF _ rfl).mono ?_
  rintro e w' ⟨rfl, ⟨n, rfl⟩⟩
  go_wp2_with fail
  refine (mul_c b x (F.inv y) _ (hF.drewN n) _ _ rfl rfl).mono ?_
  rintro e w' ⟨rfl, ⟨n', rfl⟩⟩
  go_wp2
  go_ret
  exact ⟨rfl, ⟨_, rfl⟩⟩
set_option maxHeartbeats 400000 in
theorem div_nil (X Y : Int) (w : World) :
   Calls Try.prog 44 #[.pointer none, .int .u8 X, .int .u8 Y] w fun e w' => e = .returned (.int .u8 0) ∧ w = w' := by
  go_enter Try.func44, Try.ntmps44
  go_wp2_with fail
  refine (inv_nil Y w).mono ?_
  rintro e w' ⟨rfl, rfl⟩
  go_wp2_with fail
  refine (mul_nil X 0 _).mono ?_
  rintro e w' ⟨rfl, rfl⟩
  go_wp2
  go_ret
  exact ⟨rfl, rfl⟩

/-! ### sums of products -/
set_option maxHeartbeats 800000 in
theorem fDot_c (b : Nat) (v u : Value) (l m : List F) (w : World) (hF : IsField w b) (hv : Rb w v l) (hu : Rb w u m) :
   Calls Try.prog 52 #[fp b, v, u] w fun e w' => e = .returned (.int .u8 ((dot l m).n : Int)) ∧ Drawn0 w w' := by
  obtain ⟨A, c, rfl, hc, hr⟩ := hv
  obtain ⟨B, d, rfl, hd, hs⟩ := hu
  have hl := kb_len hr
  have hl' := kb_len hs
  by_cases hm : m.length < l.length
  all_goals
    go_enter Try.func52, Try.ntmps52
    go_wp2
    go_loopw [8, 17] (fun s i wr => ∃ (k : Nat) (x : F), k ≤ l.length ∧ k ≤ m.length ∧ i = .int .i64 k ∧ s = .int .u8 (x.n : Int) ∧ Hid (x = dot (l.take k) (m.take k)) ∧ Drawn0 w wr) (fun _ i _ => l.length + m.length - (intOf i).toNat)
    case atStart => exact ⟨0, 0, by omega, by omega, rfl, rfl, Lib.hid (by simp [dot]), Drawn0.refl _⟩
    case round =>
      obtain ⟨k, x, hk, hk', rfl, rfl, hx, hD⟩ := hrel
      by_cases hlt : k < l.length ∧ k < m.length
      · obtain ⟨hlt1, hlt2⟩ := hlt
        obtain ⟨ad, rfl, c1⟩ := kb_at (kb_drawn hr hD) k hlt1
        obtain ⟨ad', rfl, c2⟩ := kb_at (kb_drawn hs hD) k hlt2
        have hF' := hF.below hD.below
        have hi := dot_take l m k hlt1 hlt2
        generalize l.getD k 0 = a at *
        generalize m.getD k 0 = a' at *
        have hi' : Hid (x + a * a' = dot (l.take (k + 1)) (m.take (k + 1))) := Lib.hid (by rw [hi, hx.out])
        clear hi
        go_wp2
        go_quiet ((first | (go_at_call 40; exact qd (mul_c b a a' _ (hF'.drewN _) _ _ rfl rfl)) | (go_at_call 39; exact qs (add_c x (a * a') _ _ _ rfl rfl))))
        go_wp2
        exact ⟨⟨k + 1, _, by omega, by omega, by go_num, rfl, hi', hD.step _⟩, by simp [intOf]; omega⟩
      · have hge : l.length ≤ k ∨ m.length ≤ k := by omega
        have h1 := hx.out
        rw [dot_take_min _ _ _ hge] at h1
        subst h1
        first
          | (have hg : m.length ≤ k := by omega
             clear hlt hge
             go_wp2
             go_ret
             exact ⟨rfl, hD⟩)
          | (have hg : l.length ≤ k := by omega
             clear hlt hge
             go_wp2
             go_ret
             exact ⟨rfl, hD⟩)

set_option maxHeartbeats 800000 in
/-- Of no field each sum is 0. -/
theorem fDot_nil (v u : Value) (l m : List F) (w : World) (hv : Rb w v l) (hu : Rb w u m) :
   Calls Try.prog 52 #[.pointer none, v, u] w fun e w' => e = .returned (.int .u8 0) ∧ Drawn0 w w' := by
  obtain ⟨A, c, rfl, hc, hr⟩ := hv
  obtain ⟨B, d, rfl, hd, hs⟩ := hu
  have hl := kb_len hr
  have hl' := kb_len hs
  have h00 := Lib.hid (show (((0 : F) + 0).n : Int) = 0 from rfl)
  by_cases hm : m.length < l.length
  all_goals
    go_enter Try.func52, Try.ntmps52
    go_wp2
    go_loopw [8, 17] (fun s i wr => ∃ (k : Nat), k ≤ l.length ∧ k ≤ m.length ∧ i = .int .i64 k ∧ s = .int .u8 0 ∧ Drawn0 w wr) (fun _ i _ => l.length + m.length - (intOf i).toNat)
    case atStart => exact ⟨0, by omega, by omega, rfl, rfl, Drawn0.refl _⟩
    case round =>
      obtain ⟨k, hk, hk', rfl, rfl, hD⟩ := hrel
      by_cases hlt : k < l.length ∧ k < m.length
      · obtain ⟨hlt1, hlt2⟩ := hlt
        obtain ⟨ad, rfl, c1⟩ := kb_at (kb_drawn hr hD) k hlt1
        obtain ⟨ad', rfl, c2⟩ := kb_at (kb_drawn hs hD) k hlt2
        generalize l.getD k 0 = a at *
        generalize m.getD k 0 = a' at *
        go_wp2
        go_quiet ((first | (go_at_call 40; exact qs (mul_nil _ _ _)) | (go_at_call 39; exact qs (add_c 0 0 _ _ _ rfl rfl))))
        rw [h00.out]
        go_wp2
        exact ⟨⟨k + 1, by omega, by omega, by go_num, rfl, hD.step _⟩, by simp [intOf]; omega⟩
      · have hge : l.length ≤ k ∨ m.length ≤ k := by omega
        first
          | (have hg : m.length ≤ k := by omega
             clear hlt hge
             go_wp2
             go_ret
             exact ⟨rfl, hD⟩)
          | (have hg : l.length ≤ k := by omega
             clear hlt hge
             go_wp2
             go_ret
             exact ⟨rfl, hD⟩)

/-! ### powers -/
theorem tmod255 (k : Int) : -255 < k.tmod 255 ∧ k.tmod 255 < 255 ∧ ∃ q : Int, k = k.tmod 255 + 255 * q := by
  have h : 255 * k.tdiv 255 + k.tmod 255 = k := Int.mul_tdiv_add_tmod k 255
  refine ⟨?_, ?_, k.tdiv 255, by omega⟩
  · rcases Int.le_total 0 k with hk | hk
    · rw [Int.tmod_eq_emod_of_nonneg hk]; omega
    · obtain ⟨m, rfl⟩ : ∃ m, k = -m := ⟨-k, by omega⟩
      rw [Int.neg_tmod, Int.tmod_eq_emod_of_nonneg (by omega)]; omega
  · rcases Int.le_total 0 k with hk | hk
    · rw [Int.tmod_eq_emod_of_nonneg hk]; omega
    · obtain ⟨m, rfl⟩ : ∃ m, k = -m := ⟨-k, by omega⟩
      rw [Int.neg_tmod, Int.tmod_eq_emod_of_nonneg (by omega)]; omega
theorem pow_idx (lx : Nat) (hl : lx < 255) (k : Int) : (wrap64 ((wrap64 ((lx : Int) * k.tmod 255)).tmod 255 + 255)).tmod 255 = (((lx : Int) * k) % 255) := by
  obtain ⟨h1, h2, q, hq⟩ := tmod255 k
  generalize k.tmod 255 = t at *
  have b1 : (lx : Int) * t ≤ 255 * 255 := Int.le_trans (Int.mul_le_mul_of_nonneg_left (by omega : t ≤ 255) (by omega)) (Int.mul_le_mul_of_nonneg_right (by omega) (by omega))
  have b2 : -(255 * 255) ≤ (lx : Int) * t := by
    have : (lx : Int) * (-t) ≤ 255 * 255 := Int.le_trans (Int.mul_le_mul_of_nonneg_left (by omega : -t ≤ 255) (by omega)) (Int.mul_le_mul_of_nonneg_right (by omega) (by omega))
    rw [Int.mul_neg] at this
    omega
  have hk : (lx : Int) * k = (lx : Int) * t + 255 * ((lx : Int) * q) := by rw [hq, Int.mul_add, Int.mul_left_comm]
  rw [hk, Int.add_mul_emod_self_left]
  generalize (lx : Int) * t = p at *
  rw [show wrap64 p = p from by unfold wrap64; omega]
  obtain ⟨h3, h4, q', hq'⟩ := tmod255 p
  generalize p.tmod 255 = r at *
  rw [show wrap64 (r + 255) = r + 255 from by unfold wrap64; omega, Int.tmod_eq_emod_of_nonneg (by omega)]
  omega
set_option maxHeartbeats 400000 in
set_option maxRecDepth 100000 in
theorem pow_pos (b : Nat) (x : F) (k : Int) (w : World) (hF : IsField w b) (hx : x ≠ 0) (hk : k ≠ 0) :
   Calls Try.prog 46 #[fp b, .int .u8 (x.n : Int), .int .i64 k] w fun e w' => e = .returned (.int .u8 ((F.pwZ x k).n : Int)) ∧ Drawn0 w w' := by
  have l1 := F.lg_lt hx
  have c1 := hF.log x.n x.n_lt
  change w.cell? _ = some (.int .i64 (x.lg : Int)) at c1
  have c2 := hF.exp (((x.lg : Int) * k) % 255).toNat (by omega)
  have hr : F.expAt (((x.lg : Int) * k) % 255).toNat = (F.pwZ x k).n := by rw [F.pwZ_lg hx, F.ex_n, ← F.exp_mod (by omega)]
  have hi := pow_idx x.lg l1 k
  rw [hr] at c2
  obtain ⟨m, hm⟩ : ∃ m : Nat, (m : Int) = (((x.lg : Int) * k) % 255) := ⟨(((x.lg : Int) * k) % 255).toNat, by omega⟩
  rw [← hm] at hi c2
  rw [Int.toNat_natCast] at c2
  have m1 : (m : Int) < 255 := by omega
  generalize (F.pwZ x k).n = r at *
  generalize x.lg = lx at *
  have n1 := n_ge x
  have n3 := n_lt' x
  have b1 := n_beq_zero hx
  have b2 : (k == 0) = false := beq_eq_false_iff_ne.2 hk
  clear hr hF hx hm hk
  go_enter Try.func46, Try.ntmps46
  go_wp2
  go_ret
  exact ⟨rfl, Drawn0.refl _⟩
set_option maxHeartbeats 400000 in
theorem pow_k0 (b : Nat) (X : Int) (w : World) :
   Calls Try.prog 46 #[fp b, .int .u8 X, .int .i64 0] w fun e w' => e = .returned (.int .u8 1) ∧ w = w' := by
  go_enter Try.func46, Try.ntmps46
  go_wp2
  go_ret
  exact ⟨rfl, rfl⟩
set_option maxHeartbeats 400000 in
theorem pow_x0 (b : Nat) (k : Int) (hk : k ≠ 0) (w : World) :
   Calls Try.prog 46 #[fp b, .int .u8 0, .int .i64 k] w fun e w' => e = .returned (.int .u8 0) ∧ w = w' := by
  have b2 : (k == 0) = false := beq_eq_false_iff_ne.2 hk
  go_enter Try.func46, Try.ntmps46
  go_wp2
  go_ret
  exact ⟨rfl, rfl⟩
/-- (*Field).Pow tells the power. -/
theorem pow_c (b : Nat) (x : F) (k : Int) (w : World) (hF : IsField w b) (X : Int) (hX : X = x.n) :
   Calls Try.prog 46 #[fp b, .int .u8 X, .int .i64 k] w fun e w' => e = .returned (.int .u8 ((F.pwZ x k).n : Int)) ∧ Drawn0 w w' := by
  subst hX
  by_cases hk : k = 0
  · subst hk
    exact (pow_k0 b _ w).mono fun e w' h => ⟨h.1, h.2 ▸ Drawn0.refl _⟩
  by_cases hx : x = 0
  · subst hx
    exact (pow_x0 b k hk w).mono fun e w' h => ⟨by rw [h.1, F.pwZ_zero hk]; rfl, h.2 ▸ Drawn0.refl _⟩
  exact pow_pos b x k w hF hx hk
set_option maxHeartbeats 400000 in
theorem pow_nil (X k : Int) (w : World) :
   Calls Try.prog 46 #[.pointer none, .int .u8 X, .int .i64 k] w fun e w' => e = .returned (.int .u8 0) ∧ w = w' := by
  go_enter Try.func46, Try.ntmps46
  go_wp2
  go_ret
  exact ⟨rfl, rfl⟩
end Go.Proofs.Ytijeabhfddaoaaa
