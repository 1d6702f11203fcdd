/- Rows of rows, told by their cells alone: the rows inside are elder ones, that are only read. -/
import Derived.Test.YtijeabhfddaoaaaRws
namespace Go.Proofs.Ytijeabhfddaoaaa
set_option linter.unusedVariables false
open Go.RowKit Go.Proofs.YtijeabhfddaoaaaW.PrintWords Go.Proofs.Sh

/-- A value of one cell. -/
abbrev SV : Type := { v : Value // v.oneCell' = true }
def kv : Kd SV := Kd.scalar Subtype.val (fun y => y.2)
abbrev Ov (w0 w : World) (v : Value) (us : List SV) : Prop := Own kv 40 w0 w v us
theorem sv_of {w : World} {v : Value} {l : List F} (h : Rb w v l) : v.oneCell' = true := by
  obtain ⟨A, c, rfl⟩ := rk_form h
  rfl
theorem ov_reads {w0 w : World} {v : Value} {us : List SV} {ls : List (List F)} (h : Ov w0 w v us) (hl : us.length = ls.length) (hr : ∀ (j : Nat) (u : SV) (l : List F), us[j]? = some u → ls[j]? = some l → Rb w u.1 l) : Rbb w v ls := by
  obtain ⟨A, c, rfl, hc, hC⟩ := h.rk
  rw [hl] at hc hC ⊢
  refine ⟨A, c, rfl, hc, hC.1.symm ▸ hl.symm ▸ rfl, hC.2.1, fun hn => ?_⟩
  obtain ⟨ad, hA, hel⟩ := hC.2.2 hn
  refine ⟨ad, hA, fun j p hj => ?_⟩
  have hjl : j < us.length := by rw [hl]; exact (List.getElem?_eq_some_iff.1 hj).1
  obtain ⟨u, hu⟩ : ∃ u, us[j]? = some u := ⟨us[j], List.getElem?_eq_getElem hjl⟩
  obtain ⟨cs, hcl, hK, hcell⟩ := hel j u hu
  have hK' : cs = [u.1] := hK
  subst hK'
  obtain ⟨A', c', e, hc', hC'⟩ := hr j u p hu hj
  exact ⟨[u.1], rfl, ⟨A', c', by rw [e], hc', hC'⟩, hcell⟩
end Go.Proofs.Ytijeabhfddaoaaa
