/- Contracts with open addresses. -/
import Derived.Test.YtacbenjfiabegaaPo
import Derived.Test.YtacbenjfiabegaaK5
namespace Go.Proofs.Ytacbenjfiabegaa
set_option linter.unusedVariables false
open Go.RowKit Go.Proofs.YtacbenjfiabegaaW.PrintWords Go.Proofs.Sh

theorem add_0 (a : Addr) : a.add 0 = a := by unfold Addr.add; split <;> simp_all
/-- A literal '[][]byte{..}' of rows that read. -/
theorem lit_bb (w : World) (ls : List (List F)) (us : List Value) (cs : Array Value) (t : TypeId) (n c : Nat) (h : cs.toList = us) (hl : us.length = ls.length) (hr : ∀ (j : Nat) (u : Value) (l : List F), us[j]? = some u → ls[j]? = some l → Rb w u l) (hn : n = ls.length) (hc : n ≤ c) (hm : n ≤ 9223372036854775807) :
    Rbb (w.alloc (.cells cs t)) (.slice (some ⟨w.heap.size, 0, none⟩) n c) ls := by
  subst hn
  refine ⟨_, c, rfl, hc, rfl, hm, fun _ => ⟨_, rfl, fun j p hj => ?_⟩⟩
  have hjl : j < us.length := by rw [hl]; exact (List.getElem?_eq_some_iff.1 hj).1
  obtain ⟨u, hu⟩ : ∃ u, us[j]? = some u := ⟨us[j], List.getElem?_eq_getElem hjl⟩
  obtain ⟨A, k, rfl, hk, hC⟩ := (hr j u p hu hj).alloc (.cells cs t)
  refine ⟨[.slice A p.length k], rfl, ⟨A, k, rfl, hk, hC⟩, fun i v hi => ?_⟩
  cases i with
  | zero =>
    have hv : Value.slice A p.length k = v := by simpa using hi
    subst hv
    have hcs : cs[j]? = some (.slice A p.length k) := by rw [← Array.getElem?_toList, h, hu]
    have ha : (⟨w.heap.size, 0, none⟩ : Addr).add (j * 1 + 0) = ⟨w.heap.size, j, none⟩ := by rw [add_plain, Nat.mul_one, Nat.add_zero]
    show (w.alloc (.cells cs t)).cell? ((⟨w.heap.size, 0, none⟩ : Addr).add (j * 1 + 0)) = _
    rw [ha, World.cell?_alloc_new, hcs]
  | succ i => simp at hi
theorem lit_bb2 (w : World) (u0 u1 : Value) (l0 l1 : List F) (t : TypeId) (h0 : Rb w u0 l0) (h1 : Rb w u1 l1) : Rbb (w.alloc (.cells #[u0, u1] t)) (.slice (some ⟨w.heap.size, 0, none⟩) 2 2) [l0, l1] := by
  refine lit_bb w [l0, l1] [u0, u1] _ t 2 2 rfl rfl (fun j u l hu hl => ?_) rfl (Nat.le_refl _) (by decide)
  match j with
  | 0 => simp at hu hl; subst hu; subst hl; exact h0
  | 1 => simp at hu hl; subst hu; subst hl; exact h1
  | j + 2 => simp at hu
/-- The first two rows, at hand for a walk. -/
theorem rows_01 {w : World} {v : Value} {l0 l1 : List F} {ls : List (List F)} (h : Rbb w v (l0 :: l1 :: ls)) : ∃ ad c u0 u1, v = .slice (some ad) (ls.length + 1 + 1) c ∧ w.cell? ad = some u0 ∧ w.cell? ⟨ad.block, ad.off + 1, none⟩ = some u1 ∧ Rb w u0 l0 ∧ Rb w u1 l1 := by
  obtain ⟨A, c, rfl, hc, hr⟩ := h
  obtain ⟨ad, u0, rfl, d0, hu0⟩ := kbb_at hr 0 (by simp)
  obtain ⟨ad1, u1, e1, d1, hu1⟩ := kbb_at hr 1 (by simp)
  injection e1 with e1
  subst e1
  rw [add_0] at d0
  exact ⟨ad, c, u0, u1, rfl, d0, d1, hu0, hu1⟩
end Go.Proofs.Ytacbenjfiabegaa
