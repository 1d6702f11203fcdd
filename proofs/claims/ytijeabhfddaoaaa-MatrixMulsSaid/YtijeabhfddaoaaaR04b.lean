/- The walks of the reference of layer 4: Det, Mul. -/
import Derived.Test.YtijeabhfddaoaaaR04
import Derived.Test.YtijeabhfddaoaaaK9
namespace Go.Proofs.Ytijeabhfddaoaaa
set_option linter.unusedVariables false
open Go.RowKit Go.Proofs.YtijeabhfddaoaaaW.PrintWords Go.Proofs.Sh

theorem minor_sq {n : Nat} {a : List (List F)} (h : F.Sq (n + 1) a) (k : Nat) (hk : k < n + 1) : F.Sq n (a.tail.map (·.eraseIdx k)) := by
  obtain ⟨h1, h2⟩ := h
  refine ⟨by rw [List.length_map, List.length_tail, h1]; rfl, fun r hr => ?_⟩
  obtain ⟨s, hs, rfl⟩ := List.mem_map.1 hr
  have := h2 s (List.mem_of_mem_tail hs)
  rw [List.length_eraseIdx_of_lt (by omega), this]
  rfl
set_option maxRecDepth 100000 in
set_option maxHeartbeats 1600000 in
theorem rDet_c : ∀ (n : Nat) (v : Value) (a : List (List F)) (w : World), n ≤ 100 → F.Sq n a → Rbb w v a →
   Calls Try.prog 105 #[v] w fun e w' => e = .returned (.int .u8 ((F.detN n a).n : Int)) ∧ Below w.heap.size w w' := by
  intro n
  induction n with
  | zero =>
    intro v a w hn hs hv
    obtain ⟨A, c, rfl⟩ := rk_form hv
    have h0 : a.length = 0 := hs.1
    have hd : Hid (F.detN 0 a = 1) := Lib.hid rfl
    have t0 : ((a.length : Int) == 0) = true := beq_iff_eq.2 (by omega)
    go_enter Try.func105, Try.ntmps105
    go_wp2
    go_ret
    rw [hd.out]
    exact ⟨rfl, Below.refl _ _⟩
  | succ n ih =>
    intro v a w hn hs hv
    obtain ⟨A, c, rfl⟩ := rk_form hv
    have hrec := fun k hk v W h => Lib.hid (ih v _ W (by omega) (minor_sq hs k hk) h)
    clear ih
    have hl : a.length = n + 1 := hs.1
    have hl9 : a.length ≤ 1000 := by omega
    have hne : a.length ≠ 0 := by omega
    have hrow := Lib.hid (fun k (hk : k < n + 1) r (hr : r ∈ a) => (show k < r.length ∧ r.length ≤ 1000 from by have := hs.2 r hr; omega))
    have t0 : ((a.length : Int) == 0) = false := beq_eq_false_iff_ne.2 (by omega)
    obtain ⟨ad, u0, rfl, d0, hu0⟩ := kbb_at (rk_C hv) 0 (by omega)
    rw [add_0] at d0
    obtain ⟨A0, c0, rfl⟩ := rk_form hu0
    have hr0 : (a.getD 0 []).length = a.length := by rw [hs.2 _ (getD_mem (by omega)), hl]
    have hD0 : Hid (F.detN (n + 1) a = F.sm a.length (fun k => (a.getD 0 []).getD k 0 * F.detN n (a.tail.map (·.eraseIdx k)))) := Lib.hid (by rw [hl]; rfl)
    clear hs
    generalize a.getD 0 [] = r0 at *
    rw [hr0] at hu0 d0
    clear hr0
    have hN := Lib.hid hl
    have hpos : (0 : Int) < (a.length : Int) := by omega
    have hpos2 : 0 < a.length := by omega
    clear hl
    go_enter Try.func105, Try.ntmps105
    go_wp2_with fail
    go_loopw [3, 4] (fun s i wr => ∃ (k : Nat) (y : F), k ≤ a.length ∧ i = .int .i64 k ∧ s = .int .i64 (y.n : Int) ∧ Hid (y = F.sm k (fun k => r0.getD k 0 * F.detN n (a.tail.map (·.eraseIdx k)))) ∧ Below w.heap.size w wr) (fun _ i _ => a.length - (intOf i).toNat)
    case atStart => exact ⟨0, 0, by omega, rfl, rfl, Lib.hid rfl, Below.refl _ _⟩
    case round =>
      obtain ⟨k, y, hk, rfl, rfl, hy, hD⟩ := hrel
      have hy1 := n_lt' y
      have hy2 := n_ge y
      by_cases hlt : k < a.length
      · have hk1 : k < n + 1 := by have := hN.out; omega
        have hrows := Lib.hid (hrow.out k hk1)
        have hreck := Lib.hid (fun v W h => (hrec k hk1 v W h).out)
        have hS : Hid (F.sm (k + 1) (fun k => r0.getD k 0 * F.detN n (a.tail.map (·.eraseIdx k))) = y + r0.getD k 0 * F.detN n (a.tail.map (·.eraseIdx k))) := Lib.hid (by rw [hy.out]; rfl)
        have hv' := hv.below hD
        obtain ⟨ad0, e1, e0⟩ := kb_at (rk_C hu0) k (by have := rk_len hu0; omega)
        subst e1
        have d1 := pw_cell_below hD d0
        have e1 := pw_cell_below hD e0
        clear hrow hrec hk1
        generalize r0.getD k 0 = x at *
        by_cases hx : x = 0
        · have hS2 : Hid (y = F.sm (k + 1) (fun k => r0.getD k 0 * F.detN n (a.tail.map (·.eraseIdx k)))) := Lib.hid (by rw [hS.out, hx, F.zero_mul, F.add_zero])
          have t1 := (n_eq0 hx).2
          clear hx
          go_wp2
          exact ⟨⟨k + 1, y, by omega, by go_num, rfl, hS2, hD⟩, by simp [intOf]; try omega⟩
        · have t1 := (n_ne0 hx).2
          clear hx
          generalize F.detN n (a.tail.map (·.eraseIdx k)) = d at *
          have hS2 : Hid (y + x * d = F.sm (k + 1) (fun k => r0.getD k 0 * F.detN n (a.tail.map (·.eraseIdx k)))) := Lib.hid hS.out.symm
          have hxor := Lib.hid (xor_n y (x * d))
          have hN1 := wrap_n (x * d)
          have hN2 : IntKind.i64.wrap ((x * d).n : Int) = ((x * d).n : Int) := wrapI _ (by have := n_ge (x * d); omega) (by have := n_lt' (x * d); omega)
          clear hS
          go_wp2_with fail
          go_region_held3 (fun w' => w'.cell? ad = some (.slice (some ad0) a.length c0) ∧ w'.cell? (ad0.add k) = some (.int .u8 (x.n : Int)))
            (go_keep)
            (first
            | (go_at_call 178; refine (rWithout_c _ a k _ (by first | exact hv' | exact hv'.drew | exact hv'.drewN _) hl9 hne hrows.out).mono ?_; rintro e w6 ⟨z6, rfl, h6, b6⟩; replace h6 := h6.rk; (repeat (first | replace b6 := ba b6 | replace b6 := buN b6 | replace b6 := bu b6)); replace hD := bt_ hD b6; replace d1 := pw_cell_below hD d0; replace e1 := pw_cell_below hD e0)
            | (go_at_call 105; refine (hreck.out _ _ (by first | exact h6 | exact h6.drew | exact h6.drewN _)).mono ?_; rintro e w7 ⟨rfl, b7⟩; (repeat (first | replace b7 := ba b7 | replace b7 := buN b7 | replace b7 := bu b7)); replace hD := bt_ hD b7; replace d1 := pw_cell_below hD d0; replace e1 := pw_cell_below hD e0)
            | (go_at_call 41; refine (rMul_c x d _ _ _ rfl rfl).mono ?_; rintro e w8 ⟨rfl, rfl⟩)
            | fail)
          all_goals
            go_wp2
            (try rw [hxor.out])
            exact ⟨⟨k + 1, _, by omega, by go_num, rfl, hS2, by first | exact hD | exact below_drew hD | exact pw_below_drewN hD _⟩, by simp [intOf]; try omega⟩
      · obtain rfl : k = a.length := by omega
        go_wp2
        go_ret
        rw [hD0.out, ← hy.out]
        exact ⟨rfl, hD⟩
/-- A row times a matrix's column. -/
def rc (r : List F) (b : List (List F)) (k : Nat) : F := F.sm b.length (fun j => r.getD j 0 * (b.getD j []).getD k 0)
/-- The product. -/
def mulR (a b : List (List F)) : List (List F) := a.map fun r => (List.range (wid b).toNat).map (rc r b)
set_option maxRecDepth 100000 in
set_option maxHeartbeats 1600000 in
theorem rMul4_wid (v u : Value) (a b : List (List F)) (w : World) (hv : Rbb w v a) (hu : Rbb w u b) (hw : wid b < 0) :
   Calls Try.prog 106 #[v, u] w fun e w' => e = .returned (.tuple #[.slice none 0 0, .bool false]) ∧ Drawn0 w w' := by
  have hc := Lib.hid (rWidth_c u b w hu)
  have t0 : decide (wid b < 0) = true := decide_eq_true hw
  generalize wid b = x at *
  go_enter Try.func106, Try.ntmps106
  go_wp2_with fail
  refine hc.out.mono ?_
  rintro e w1 ⟨rfl, h1⟩
  go_wp2
  go_ret2
  exact ⟨rfl, h1⟩
set_option maxRecDepth 100000 in
set_option maxHeartbeats 3200000 in
theorem rMul4_c (v u : Value) (a b : List (List F)) (W : Nat) (w : World) (hv : Rbb w v a) (hu : Rbb w u b) (ha : a.length ≤ 1000) (hb : b.length ≤ 1000) (hW : wid b = (W : Int)) (hW9 : W ≤ 1000) (hbr : ∀ j, j < b.length → (b.getD j []).length = W) :
   Calls Try.prog 106 #[v, u] w fun e w' => ((∃ k, k < a.length ∧ (a.getD k []).length ≠ b.length) ∧ e = .returned (.tuple #[.slice none 0 0, .bool false]) ∨
     (∀ k, k < a.length → (a.getD k []).length = b.length) ∧ ∃ z, e = .returned (.tuple #[z, .bool true]) ∧ Obb w w' z (mulR a b)) ∧ Below w.heap.size w w' := by
  have hMR : Hid (mulR a b = (List.range a.length).map fun i => (List.range W).map (rc (a.getD i []) b)) := Lib.hid (by
    unfold mulR
    rw [hW]
    apply List.ext_getElem (by simp)
    intro i h1 h2
    have : i < a.length := by simpa using h1
    simp [List.getD_eq_getElem?_getD, this])
  replace hbr := Lib.hid hbr
  have hwid := fun V h => Lib.hid (rWidth_c u b V h)
  rw [hW] at hwid
  obtain ⟨A, c, rfl⟩ := rk_form hv
  obtain ⟨B, d, rfl⟩ := rk_form hu
  have t0 : decide ((W : Int) < 0) = false := decide_eq_false (by omega)
  clear hW
  go_enter Try.func106, Try.ntmps106
  go_wp2_with fail
  refine (hwid _ hu).out.mono ?_
  rintro e w1 ⟨rfl, h1⟩
  have hB := h1.below
  clear h1
  go_wp2_with fail
  go_loopw [6, 7] (fun s i wr => ∃ i' : Nat, i' ≤ a.length ∧ i = .int .i64 i' ∧ Hid (∀ k, k < i' → (a.getD k []).length = b.length) ∧ Obb w wr s ((List.range i').map fun i => (List.range W).map (rc (a.getD i []) b)) ∧ Below w.heap.size w wr) (fun _ i _ => a.length - (intOf i).toNat)
  case atStart => exact ⟨0, by omega, rfl, Lib.hid (fun k hk => absurd hk (Nat.not_lt_zero _)), Own.nil _ _ _ _, hB⟩
  case round =>
    clear hB
    obtain ⟨i, hi, rfl, hall, oM, hB⟩ := hrel
    by_cases hlt : i < a.length
    · obtain ⟨ada, u1, rfl, d1, hu1⟩ := kbb_at (rk_C (hv.below hB)) i hlt
      obtain ⟨A1, c1, rfl⟩ := rk_form hu1
      have HS := Lib.hid (range_snoc (fun i => (List.range W).map (rc (a.getD i []) b)) i)
      have hlen : Hid (((List.range i).map fun i => (List.range W).map (rc (a.getD i []) b)).length + 1 ≤ 5000000000) := Lib.hid (by simp; omega)
      by_cases hr : (a.getD i []).length = b.length
      · have hall2 : Hid (∀ k, k < i + 1 → (a.getD k []).length = b.length) := Lib.hid (fun k hk => by
          by_cases e : k = i
          · rw [e]; exact hr
          · exact hall.out k (by omega))
        generalize a.getD i [] = r at *
        rw [hr] at d1 hu1
        have t1 : (((b.length : Nat) : Int) != (b.length : Int)) = false := by simp
        generalize ((List.range i).map fun i => (List.range W).map (rc (a.getD i []) b)) = M at *
        rename_i vM
        go_wp2_with fail
        go_loopw [8, 9] (fun s k ws => ∃ k' : Nat, k' ≤ W ∧ k = .int .i64 k' ∧ Ob wr ws s ((List.range k').map (rc r b)) ∧ Below wr.heap.size wr ws) (fun _ k _ => W - (intOf k).toNat)
        case atStart => exact ⟨0, by omega, rfl, Own.nil _ _ _ _, Below.refl _ _⟩
        case round =>
          obtain ⟨k, hk, rfl, oR, hD⟩ := hrel
          go_wp2_with fail
          refine (hwid _ (hu.below (bt_ hB hD))).out.mono ?_
          rintro e ws1 ⟨rfl, h1⟩
          replace oR := oR.drawn h1
          replace hD := bd hD h1
          clear h1
          by_cases hlt2 : k < W
          · have t2 : decide ((k : Int) < (W : Int)) = true := decide_eq_true (by omega)
            have HR := Lib.hid (range_snoc (rc r b) k)
            have hlr : Hid (((List.range k).map (rc r b)).length + 1 ≤ 1000000) := Lib.hid (by simp; omega)
            have hrc : Hid (rc r b k = F.sm b.length (fun j => r.getD j 0 * (b.getD j []).getD k 0)) := Lib.hid rfl
            have hu1' := hu1.below hD
            have hub' := hu.below (bt_ hB hD)
            have d1' := pw_cell_below hD d1
            generalize ((List.range k).map (rc r b)) = R at *
            go_wp2_with fail
            go_loopw [10, 11] (fun s j wt => ∃ (j' : Nat) (y : F), j' ≤ b.length ∧ j = .int .i64 j' ∧ s = .int .i64 (y.n : Int) ∧ Hid (y = F.sm j' (fun j => r.getD j 0 * (b.getD j []).getD k 0)) ∧ Drawn0 ws1 wt) (fun _ j _ => b.length - (intOf j).toNat)
            case atStart => exact ⟨0, 0, by omega, rfl, rfl, Lib.hid rfl, Drawn0.refl _⟩
            case round =>
              obtain ⟨j, y, hj, rfl, rfl, hy, hE⟩ := hrel
              have hy1 := n_lt' y
              have hy2 := n_ge y
              by_cases hlt3 : j < b.length
              · have hlb := hbr.out j hlt3
                obtain ⟨adb, u2, rfl, e2, hu2⟩ := kbb_at (rk_C (hub'.below hE.below)) j hlt3
                obtain ⟨A2, c2, rfl⟩ := rk_form hu2
                obtain ⟨ad1, q1, e1⟩ := kb_at (rk_C (hu1'.below hE.below)) j (by rw [hr]; exact hlt3)
                subst q1
                obtain ⟨ad2, q2, e3⟩ := kb_at (rk_C hu2) k (by omega)
                subst q2
                have d2 := pw_cell_below hE.below d1'
                have hS : Hid (F.sm (j + 1) (fun j => r.getD j 0 * (b.getD j []).getD k 0) = y + r.getD j 0 * (b.getD j []).getD k 0) := Lib.hid (by rw [hy.out]; rfl)
                rw [hlb] at e2
                clear hlb hu2
                generalize (b.getD j []).getD k 0 = z at *
                generalize r.getD j 0 = x at *
                have hxor := Lib.hid (xor_n y (x * z))
                have hN1 := wrap_n (x * z)
                have hN2 : IntKind.i64.wrap ((x * z).n : Int) = ((x * z).n : Int) := wrapI _ (by have := n_ge (x * z); omega) (by have := n_lt' (x * z); omega)
                have hS2 : Hid (y + x * z = F.sm (j + 1) (fun j => r.getD j 0 * (b.getD j []).getD k 0)) := Lib.hid hS.out.symm
                clear hS
                go_wp2
                go_quiet ((go_at_call 41; exact qs (rMul_c x z _ _ _ rfl rfl)))
                go_wp2
                (try rw [hxor.out])
                exact ⟨⟨j + 1, _, by omega, by go_num, rfl, hS2, hE.step _⟩, by simp [intOf]; try omega⟩
              · obtain rfl : j = b.length := by omega
                have oR1 := oR.below hE.below
                have hD1 := bd hD hE
                have hyc : Hid (y = rc r b k) := Lib.hid (by rw [hrc.out]; exact hy.out)
                have hlr9 := hlr.out
                go_wp2_with (at_builtin; refine app_one (enc := bV) rfl (.tmp 59) (.tmp 62) 40 5 (.int .u8 0) 1 rfl Try.underlying40 infoB rfl (by decide) _ _ y rfl rfl _ (bV_eq ?hc) oR1 hD1 ?hl ?_; (case hc => (first | exact rfl | exact rfl)); (case hl => (first | (simp; omega) | omega)); intro v1 w1 ho hb hg)
                exact ⟨⟨k + 1, by omega, by go_num, by rw [HR.out, ← hyc.out]; exact ho, hb⟩, by simp [intOf]; try omega⟩
          · obtain rfl : k = W := by omega
            have t2 : decide ((k : Int) < (k : Int)) = false := decide_eq_false (by omega)
            have hlen9 := hlen.out
            replace oR := oR.lower (w0 := w) hB
            have oM1 := oM.below hD
            have hB1 := bt_ hB hD
            generalize ((List.range k).map (rc r b)) = R at *
            obtain ⟨A2, c2, rfl⟩ := rk_form oR.rk
            go_wp2_with (at_builtin; refine app_row rfl (.tmp 64) (.tmp 66) 66 40 rfl Try.underlying66 infoR (by decide) _ _ _ _ rfl rfl oM1 oR hB1 ?hl ?_; (case hl => (first | (simp; omega) | omega)); intro v1 w1 ho hb hg)
            exact ⟨⟨i + 1, by omega, by go_num, hall2, by rw [HS.out]; exact ho, hb⟩, by simp [intOf]; try omega⟩
      · have t1 : (((a.getD i []).length : Int) != (b.length : Int)) = true := by rw [bne_iff_ne]; omega
        have hrn := Lib.hid hr
        have hilt := Lib.hid hlt
        generalize hn1 : (a.getD i []).length = n1 at *
        replace hn1 := Lib.hid hn1
        go_wp2
        go_ret2
        exact ⟨.inl ⟨⟨i, hlt, by rw [hn1.out]; exact hrn.out⟩, rfl⟩, hB⟩
    · obtain rfl : i = a.length := by omega
      go_wp2
      go_ret2
      exact ⟨.inr ⟨hall.out, _, rfl, by rw [hMR.out]; exact oM⟩, hB⟩
end Go.Proofs.Ytijeabhfddaoaaa
