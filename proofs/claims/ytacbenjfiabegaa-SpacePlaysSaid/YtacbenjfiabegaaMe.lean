/- A method that is called through an interface: which function it is, and with what receiver. -/
import Derived.Test.YtacbenjfiabegaaK7
namespace Go.Proofs.Ytacbenjfiabegaa
set_option linter.unusedVariables false
open Go.RowKit Go.Proofs.YtacbenjfiabegaaW.PrintWords Go.Proofs.Sh

theorem meth_ptr {P : Program} {t : TypeId} {e : TypeId} {name : String} {f : FuncId} (h : (P.info? t).bind (fun i => (i.methods.find? (·.name == name)).map fun m => (m.path.toList.length, m.func)) = some (0, some (f, true))) (ht : P.underlying t = some (.pointer e)) (n : Nat) (v : Value) (w : World) : (method (n + 1) t v name).run P w = .ok (f, v) w := by
  cases hi : P.info? t with
  | none => rw [hi] at h; cases h
  | some i =>
    rw [hi] at h
    cases hm : i.methods.find? (·.name == name) with
    | none => rw [Option.bind_some, hm] at h; cases h
    | some m =>
      rw [Option.bind_some, hm] at h
      simp only [Option.map_some, Option.some.injEq, Prod.mk.injEq] at h
      obtain ⟨h1, h2⟩ := h
      have hp : m.path.toList = [] := List.eq_nil_of_length_eq_zero h1
      unfold method
      simp [typeInfo, Sem.run_bind, hi, hm, hp, follow, h2, receiverAt, run_underlying ht, Place.get]
theorem meth_val {P : Program} {t : TypeId} {e x : TypeId} {name : String} {f : FuncId} (h : (P.info? t).bind (fun i => (i.methods.find? (·.name == name)).map fun m => (m.path.toList.length, m.func)) = some (0, some (f, false))) (ht : P.underlying t = some (.pointer e)) (he : P.underlying e = some (.slice x)) (n : Nat) (a : Addr) (v : Value) (w : World) (hc : w.cell? a = some v) : (method (n + 1) t (.pointer (some a)) name).run P w = .ok (f, v) w := by
  cases hi : P.info? t with
  | none => rw [hi] at h; cases h
  | some i =>
    rw [hi] at h
    cases hm : i.methods.find? (·.name == name) with
    | none => rw [Option.bind_some, hm] at h; cases h
    | some m =>
      rw [Option.bind_some, hm] at h
      simp only [Option.map_some, Option.some.injEq, Prod.mk.injEq] at h
      obtain ⟨h1, h2⟩ := h
      have hp : m.path.toList = [] := List.eq_nil_of_length_eq_zero h1
      have hagg : (isAgg e).run P w = .ok false w := by
        unfold isAgg
        rw [Sem.run_bind, run_underlying he w]
        rfl
      have hl : (loadVar e a).run P w = .ok v w := by
        unfold loadVar
        rw [Sem.run_bind, hagg]
        simp only [Result.andThen_ok, Bool.false_eq_true, if_false]
        rw [run_load, hc]
      have hs : ∀ s1 s2, (Builtin.ssaWrapNilChk_ #[t] t #[.pointer (some a), strVal s1, strVal s2]).run P w = .ok (.pointer (some a)) w := fun s1 s2 => rfl
      unfold method
      have hpa : m.path = #[] := Array.toList_eq_nil_iff.1 hp
      simp [typeInfo, Sem.run_bind, hi, hm, hpa, follow, h2, receiverAt, run_underlying ht, Place.get, hs, hl, asAddr]
end Go.Proofs.Ytacbenjfiabegaa
