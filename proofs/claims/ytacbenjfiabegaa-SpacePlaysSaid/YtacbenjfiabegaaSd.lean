/- The walks of space: slots, Contains of bools, all. -/
import Derived.Test.YtacbenjfiabegaaSc
import Derived.Test.YtacbenjfiabegaaSl
namespace Go.Proofs.Ytacbenjfiabegaa
set_option linter.unusedVariables false
set_option linter.unusedSimpArgs false
open Go.RowKit Go.Proofs.YtacbenjfiabegaaW.PrintWords Go.Proofs.Sh

theorem infoBool : (Try.prog.info? 4).map (fun i => (i.zero, i.size, i.bytes)) = some (some (.bool false), 1, 1) := by kernel_rfl
/-- Bools of one's own. -/
abbrev Ol (w0 w : World) (v : Value) (l : List Bool) : Prop := Own Kd.bool 4 w0 w v l
theorem ol_own {w0 W : World} {v : Value} {xs : List Bool} (h : Ol w0 W v xs) : W.ownsRow w0.heap.size 4 1 v xs.length (xs.map Value.bool) := Kd.own_of_R h
theorem own_ol {w0 W : World} {v : Value} {xs : List Bool} (h : W.ownsRow w0.heap.size 4 1 v xs.length (xs.map Value.bool)) : Ol w0 W v xs := Kd.R_of_own h (fun _ _ => trivial)
theorem kl_at {w : World} {A : Option Addr} {n : Nat} {l : List Bool} (h : Kd.bool.C w A n l) (j : Nat) (hj : j < n) : ∃ ad, A = some ad ∧ w.cell? (ad.add j) = some (.bool (l.getD j false)) := by
  obtain ⟨ad, e, hc⟩ := Kd.at_bool h (j : Int) (by omega) (by omega)
  rw [Int.toNat_natCast] at hc
  exact ⟨ad, e, hc⟩
theorem Ol.at {w0 w : World} {g n cap : Nat} {l : List Bool} (h : Ol w0 w (.slice (some ⟨g, 0, none⟩) n cap) l) (j : Nat) (hj : j < l.length) : w.cell? ⟨g, j, none⟩ = some (.bool (l.getD j false)) ∧ w.frozen? ⟨g, j, none⟩ = false := by
  have ho := ol_own h
  constructor
  · have hc := ho.cells (g := g) rfl j (.bool (l.getD j false)) (by simp [List.getElem?_eq_getElem hj, List.getD_eq_getElem?_getD])
    rwa [add_plain] at hc
  · obtain ⟨cells, hc⟩ := own_typed ho g (by simp [Value.ownBlock])
    exact blk_frozen hc _
theorem Ol.set {w0 w : World} {g n cap : Nat} {l : List Bool} (h : Ol w0 w (.slice (some ⟨g, 0, none⟩) n cap) l) (j : Nat) (x : Bool) : Ol w0 (w.setCell ⟨g, j, none⟩ (.bool x)) (.slice (some ⟨g, 0, none⟩) n cap) (l.set j x) ∧ w.grownBy (w.setCell ⟨g, j, none⟩ (.bool x)) (some g) := by
  have hn : n = l.length := by obtain ⟨A, c, e, _, _⟩ := Own.rk h; injection e
  subst hn
  have hs := (ol_own h).stored j (.bool x)
  refine ⟨own_ol ?_, hs.2⟩
  have := hs.1
  rw [List.length_set, List.map_set]
  exact this
set_option maxRecDepth 100000 in
set_option maxHeartbeats 1600000 in
theorem lIndex_c (v : Value) (l : List Bool) (x : Bool) (w : World) (hv : Rl w v l) :
   Calls Try.prog 104 #[v, .bool x] w fun e w' => (∃ z : Int, e = .returned (.int .i64 z) ∧ (0 ≤ z ↔ x ∈ l) ∧ -1 ≤ z) ∧ w = w' := by
  obtain ⟨A, c, rfl, hc, hr⟩ := hv
  have hl : l.length ≤ 9223372036854775807 := hr.2.1
  go_enter Try.func104, Try.ntmps104
  go_wp2
  go_loop [8] (fun i => ∃ k : Nat, k ≤ l.length ∧ i = .int .i64 k ∧ Hid (x ∉ l.take k)) (fun i => l.length - (intOf i).toNat)
  case atStart => exact ⟨0, by omega, rfl, Lib.hid (by simp)⟩
  case round =>
    obtain ⟨k, hk, rfl, hn⟩ := hrel
    by_cases hlt : k < l.length
    · obtain ⟨ad, rfl, c1⟩ := kl_at hr k hlt
      have hst := take_snoc' l k false hlt
      by_cases hcx : l.getD k false = x
      · have t2 : (x == l.getD k false) = true := by rw [hcx]; simp
        have hi : Hid (0 ≤ (k : Int) ↔ x ∈ l) := Lib.hid (iff_of_true (by omega) (by
          refine List.mem_of_mem_take (i := k + 1) ?_
          rw [hst, hcx]; exact List.mem_append.2 (.inr (List.mem_singleton_self _))))
        generalize l.getD k false = a at *
        clear hcx hst
        go_wp2
        go_ret
        exact ⟨⟨_, rfl, hi.out, by omega⟩, rfl⟩
      · have t2 : (x == l.getD k false) = false := beq_eq_false_iff_ne.2 (fun e => hcx e.symm)
        have hi : Hid (x ∉ l.take (k + 1)) := Lib.hid (by
          rw [hst]
          exact fun h => (List.mem_append.1 h).elim hn.out (fun h => hcx (List.mem_singleton.1 h).symm))
        generalize l.getD k false = a at *
        clear hcx hst
        go_wp2
        exact ⟨⟨k + 1, by omega, by go_num, hi⟩, by simp [intOf]; try omega⟩
    · obtain rfl : k = l.length := by omega
      have h1 := hn.out
      rw [List.take_length] at h1
      have h2 := Lib.hid h1
      clear h1
      go_wp2
      go_ret
      exact ⟨⟨-1, rfl, iff_of_false (by omega) h2.out, by omega⟩, rfl⟩
set_option maxRecDepth 100000 in
set_option maxHeartbeats 1600000 in
theorem lContains_c (v : Value) (l : List Bool) (x : Bool) (w : World) (hv : Rl w v l) :
   Calls Try.prog 94 #[v, .bool x] w fun e w' => e = .returned (.bool (decide (x ∈ l))) ∧ w = w' := by
  go_enter Try.func94, Try.ntmps94
  go_wp2_with fail
  refine (lIndex_c _ _ x _ hv).mono ?_
  rintro e w_ ⟨⟨z, rfl, hz, _⟩, rfl⟩
  have hz : Hid (decide (0 ≤ z) = decide (x ∈ l)) := Lib.hid (decide_eq_decide.2 hz)
  go_wp2
  go_ret
  rw [← hz.out]
  exact ⟨rfl, rfl⟩
/-- A space that is read: none, or the box of a row of bools. -/
def Rs (w : World) (p : Value) (l : List Bool) : Prop := (p = .pointer none ∧ l = []) ∨ ∃ (b : Nat) (A : Option Addr) (c : Nat), p = .pointer (some ⟨b, 0, none⟩) ∧ Blk w b #[.slice A l.length c] 82 ∧ Rl w (.slice A l.length c) l
theorem Rs.below {w w' : World} {p : Value} {l : List Bool} (h : Rs w p l) (hb : Below w.heap.size w w') : Rs w' p l := by
  rcases h with h | ⟨b, A, c, h1, h2, h3⟩
  · exact .inl h
  · exact .inr ⟨b, A, c, h1, h2.below hb, Rk.below h3 hb⟩
theorem Rs.len {w : World} {p : Value} {l : List Bool} (h : Rs w p l) : l.length ≤ 9223372036854775807 := by
  rcases h with ⟨_, rfl⟩ | ⟨b, A, c, _, _, h3⟩
  · simp
  · exact (rk_C h3).2.1
set_option maxHeartbeats 800000 in
theorem slots_c (p : Value) (l : List Bool) (w : World) (h : Rs w p l) :
   Calls Try.prog 92 #[p] w fun e w' => e = .returned (.int .i64 (l.length : Int)) ∧ w = w' := by
  rcases h with ⟨rfl, rfl⟩ | ⟨b, A, c, rfl, h2, h3⟩
  · go_enter Try.func92, Try.ntmps92
    go_wp2
    go_ret
    exact ⟨rfl, rfl⟩
  · have c0 := h2.one
    go_enter Try.func92, Try.ntmps92
    go_wp2
    go_ret
    exact ⟨rfl, rfl⟩
/-- Are slots there, and so? -/
def allB (l : List Bool) (at_ n : Int) (f : Bool) : Bool := decide (1 ≤ n ∧ 0 ≤ at_ ∧ at_ < l.length ∧ n ≤ l.length - at_) && !decide ((!f) ∈ (l.drop at_.toNat).take n.toNat)
end Go.Proofs.Ytacbenjfiabegaa
