/- The walk of the reference of layer 4: Same (rows). -/
import Derived.Test.YtijeabhfddaoaaaR01
import Derived.Test.YtijeabhfddaoaaaK6
namespace Go.Proofs.Ytijeabhfddaoaaa
set_option linter.unusedVariables false
open Go.RowKit Go.Proofs.YtijeabhfddaoaaaW.PrintWords Go.Proofs.Sh

theorem take_eq_succR {l m : List (List F)} (k : Nat) (h1 : k < l.length) (h2 : k < m.length) : l.take (k + 1) = m.take (k + 1) ↔ l.take k = m.take k ∧ l.getD k [] = m.getD k [] := by
  rw [take_snoc' l k [] h1, take_snoc' m k [] h2]
  constructor
  · intro h
    have := List.append_inj h (by simp; omega)
    exact ⟨this.1, by simpa using this.2⟩
  · rintro ⟨h, h'⟩
    rw [h, h']
set_option maxHeartbeats 800000 in
theorem rSameR_len (v u : Value) (l m : List (List F)) (w : World) (hv : Rbb w v l) (hu : Rbb w u m) (hn : l.length ≠ m.length) :
   Calls Try.prog 89 #[v, u] w fun e w' => e = .returned (.bool false) ∧ Drawn0 w w' := by
  obtain ⟨A, c, rfl⟩ := rk_form hv
  obtain ⟨B, d, rfl⟩ := rk_form hu
  have t' : ((l.length : Int) != (m.length : Int)) = true := by rw [bne_iff_ne]; omega
  go_enter Try.func89, Try.ntmps89
  go_wp2
  go_ret
  exact ⟨rfl, Drawn0.refl _⟩
set_option maxHeartbeats 800000 in
theorem rSameR_eqlen (v u : Value) (l m : List (List F)) (w : World) (hv : Rbb w v l) (hu : Rbb w u m) (hn : l.length = m.length) :
   Calls Try.prog 89 #[v, u] w fun e w' => e = .returned (.bool (decide (l = m))) ∧ Drawn0 w w' := by
  obtain ⟨A, c, rfl⟩ := rk_form hv
  obtain ⟨B, d, rfl⟩ := rk_form hu
  have hl : l.length ≤ 9223372036854775807 := (rk_C hv).2.1
  rw [← hn] at hu
  have HN := Lib.hid hn
  rw [← hn]
  clear hn
  go_enter Try.func89, Try.ntmps89
  go_wp2_with fail
  go_loopw [5] (fun i wr => ∃ k : Nat, k ≤ l.length ∧ i = .int .i64 k ∧ Hid (l.take k = m.take k) ∧ Drawn0 w wr) (fun i _ => l.length - (intOf i).toNat)
  case atStart => exact ⟨0, by omega, rfl, Lib.hid (by simp), Drawn0.refl _⟩
  case round =>
    obtain ⟨k, hk, rfl, hr', hD⟩ := hrel
    by_cases hlt : k < l.length
    · obtain ⟨ad, u1, rfl, d1, hu1⟩ := kbb_at (rk_C (hv.below hD.below)) k hlt
      obtain ⟨ad', u2, rfl, d2, hu2⟩ := kbb_at (rk_C (hu.below hD.below)) k (HN.out ▸ hlt)
      have hi := take_eq_succR k hlt (HN.out ▸ hlt)
      generalize l.getD k [] = x at *
      generalize m.getD k [] = y at *
      by_cases e : x = y
      · subst e
        have hi' := Lib.hid (hi.2 ⟨hr'.out, rfl⟩)
        have hcall := fun n => Lib.hid (rSame_c u1 u2 x x (wr.drewN n) (hu1.drewN n) (hu2.drewN n))
        clear hi hu1 hu2
        simp only [decide_true] at hcall
        go_wp2_with fail
        go_quiet ((go_at_call 60; exact qd (hcall _).out))
        go_wp2
        exact ⟨⟨k + 1, by omega, by go_num, hi', hD.step _⟩, by simp [intOf]; omega⟩
      · have hi' : Hid (l ≠ m) := Lib.hid (fun h => e (hi.1 (by rw [h])).2)
        have hcall := fun n => Lib.hid (rSame_c u1 u2 x y (wr.drewN n) (hu1.drewN n) (hu2.drewN n))
        simp only [decide_eq_false e] at hcall
        clear hi e hu1 hu2
        go_wp2_with fail
        go_quiet ((go_at_call 60; exact qd (hcall _).out))
        go_wp2
        go_ret
        exact ⟨by simp [hi'.out], hD.step _⟩
    · go_wp2
      go_ret
      have h1 := hr'.out
      rw [List.take_of_length_le (by omega), List.take_of_length_le (by have := HN.out; omega)] at h1
      exact ⟨by simp [h1], hD⟩
/-- Are rows the same? -/
theorem rSameR_c (v u : Value) (l m : List (List F)) (w : World) (hv : Rbb w v l) (hu : Rbb w u m) :
   Calls Try.prog 89 #[v, u] w fun e w' => e = .returned (.bool (decide (l = m))) ∧ Drawn0 w w' := by
  by_cases hn : l.length = m.length
  · exact rSameR_eqlen v u l m w hv hu hn
  · refine (rSameR_len v u l m w hv hu hn).mono fun e w' h => ⟨?_, h.2⟩
    rw [h.1, decide_eq_false (fun e => hn (by rw [e]))]
end Go.Proofs.Ytijeabhfddaoaaa
