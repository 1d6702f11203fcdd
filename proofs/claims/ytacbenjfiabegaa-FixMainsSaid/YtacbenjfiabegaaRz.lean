/- The walks of the references of layers 10, 12, 13: what their laws share. -/
import Derived.Test.YtacbenjfiabegaaR02
import Derived.Test.YtacbenjfiabegaaR08b
import Derived.Test.YtacbenjfiabegaaK5
import Derived.Test.YtacbenjfiabegaaM11
namespace Go.Proofs.Ytacbenjfiabegaa
set_option linter.unusedVariables false
open Go.RowKit Go.Proofs.YtacbenjfiabegaaW.PrintWords Go.Proofs.Sh

/-- A plan of few custodians. -/
def Lite (p : Pl) : Prop := p.N ≤ 12 ∧ p.L ≤ 12 ∧ p.T ≤ 12
instance (p : Pl) : Decidable (Lite p) := inferInstanceAs (Decidable (_ ∧ _ ∧ _))
/-! ### Check of layer 12 -/
/-! ### a share of polynomials -/
/-! ### Polys of layer 12 -/

/-! ### Add -/
set_option maxRecDepth 100000 in
set_option maxHeartbeats 1600000 in
theorem rAdd12_c (v u : Value) (l m : List F) (w : World) (hv : Rb w v l) (hu : Rb w u m) (b1 : l.length ≤ 1000000) :
   Calls Try.prog 54 #[v, u] w fun e w' => ∃ z, e = .returned z ∧ Ob w w' z (F.zadd l m) ∧ Below w.heap.size w w' := by
  obtain ⟨A, c, rfl, hc, hr⟩ := hv
  obtain ⟨B, d, rfl, hd, hs⟩ := hu
  have hl := kb_len hr
  have hl2 := kb_len hs
  go_enter Try.func54, Try.ntmps54
  go_wp2
  go_loopw [5, 6] (fun s j wr => ∃ k : Nat, k ≤ l.length ∧ k ≤ m.length ∧ j = .int .i64 k ∧ Ob w wr s (F.zadd (l.take k) (m.take k)) ∧ Below w.heap.size w wr) (fun _ j _ => l.length - (intOf j).toNat)
  case atStart => exact ⟨0, by omega, by omega, rfl, Own.nil _ _ _ _, Below.refl _ _⟩
  case round =>
    obtain ⟨k, hk, hk2, rfl, hO, hB⟩ := hrel
    by_cases hlt : k < l.length
    · by_cases hlt2 : k < m.length
      · obtain ⟨ad, rfl, c0⟩ := kb_at hr k hlt
        obtain ⟨ad2, rfl, c1⟩ := kb_at hs k hlt2
        have d0 := Lib.hid c0
        have d1 := Lib.hid c1
        have c0 := pw_cell_below hB c0
        have c1 := pw_cell_below hB c1
        have HS := Lib.hid (F.zadd_snoc l m k hlt hlt2)
        have hlen : Hid ((F.zadd (l.take k) (m.take k)).length ≤ 1000000000) := Lib.hid (by rw [F.zadd_len, List.length_take]; omega)
        generalize l.getD k 0 = x at *
        generalize m.getD k 0 = y at *
        have X1 := xor8 x y
        have X2 := Lib.hid (rfl : ((x + y).n : Int) = ((x + y).n : Int))
        go_wp2_with fail
        go_region_held3 (fun w' => w'.cell? (ad.add k) = some (.int .u8 (x.n : Int)) ∧ w'.cell? (ad2.add k) = some (.int .u8 (y.n : Int)))
          (go_keep)
          (first
          | (refine step_app_y (w0 := w) (by rfl) (.tmp 19) (.tmp 29) (by rfl) _ _ (x + y) _ (by rfl) (by rfl) (by rfl) (hO.below (below_drew (Below.refl _ _))) (below_drew hB) hlen.out ?_; intro v8 w8 hO8 hB8 hg8; have c0 := pw_cell_below hB8 d0.out; have c1 := pw_cell_below hB8 d1.out)
          | fail)
        clear hO
        have hO9 : Ob w w8 v8 (F.zadd (l.take (k + 1)) (m.take (k + 1))) := by rw [HS.out]; exact hO8
        clear hO8
        go_wp2
        exact ⟨⟨k + 1, by omega, by omega, by go_num, hO9, hB8⟩, by simp [intOf]; try omega⟩
      · obtain rfl : k = m.length := by omega
        have t2 : decide ((m.length : Int) < (m.length : Int)) = false := decide_eq_false (by omega)
        rw [F.zadd_done _ _ _ (.inr (Nat.le_refl _))] at hO
        go_wp2
        go_ret
        exact ⟨_, rfl, hO, hB⟩
    · obtain rfl : k = l.length := by omega
      have t2 : decide ((l.length : Int) < (l.length : Int)) = false := decide_eq_false (by omega)
      rw [F.zadd_done _ _ _ (.inl (Nat.le_refl _))] at hO
      go_wp2
      go_ret
      exact ⟨_, rfl, hO, hB⟩
end Go.Proofs.Ytacbenjfiabegaa
