/- Records, what is held, what counts: as values. -/
import Derived.Test.YtacbenjfiabegaaK5
import Derived.Test.YtacbenjfiabegaaRow3
namespace Go.Proofs.Ytacbenjfiabegaa
set_option linter.unusedVariables false
set_option linter.unusedSimpArgs false
open Go.RowKit Go.Proofs.YtacbenjfiabegaaW.PrintWords Go.Proofs.Sh

/-- A record. -/
structure Rc where
  k : Int
  nm : ByteArray
  a : Int
  e : Int
  m : Int
  z : Int
  sh : List F
/-- What counts. -/
structure Vl where
  p : Bool
  a : Int
  e : Int
  z : Int
abbrev recC (r : Rc) (v : Value) : Array Value := #[.int .i64 r.k, .string r.nm, .int .i64 r.a, .int .i64 r.e, .int .i64 r.m, .int .i64 r.z, v]
abbrev recV (r : Rc) (v : Value) : Value := .agg (recC r v)
abbrev heldC (M S D : Rc) (u v x : Value) : Array Value := #[.int .i64 M.k, .string M.nm, .int .i64 M.a, .int .i64 M.e, .int .i64 M.m, .int .i64 M.z, u, .int .i64 S.k, .string S.nm, .int .i64 S.a, .int .i64 S.e, .int .i64 S.m, .int .i64 S.z, v, .int .i64 D.k, .string D.nm, .int .i64 D.a, .int .i64 D.e, .int .i64 D.m, .int .i64 D.z, x]
abbrev heldV (M S D : Rc) (u v x : Value) : Value := .agg (heldC M S D u v x)
abbrev valC (v : Vl) : Array Value := #[.bool v.p, .int .i64 v.a, .int .i64 v.e, .int .i64 v.z]
abbrev valV (v : Vl) : Value := .agg (valC v)
def farR (r : Rc) : Bool := decide (40 < r.nm.size) || decide (300 < r.sh.length)
set_option maxRecDepth 100000 in
set_option maxHeartbeats 1600000 in
theorem far20_c (r : Rc) (A : Option Addr) (c : Nat) (w : World) :
   Calls Try.prog 51 #[recV r (.slice A r.sh.length c)] w fun e w' => e = .returned (.bool (farR r)) ∧ Below w.heap.size w w' := by
  have hB := below_alloc (Below.refl w.heap.size w) (.cells (recC r (.slice A r.sh.length c)) 24)
  have hf := Lib.hid (show farR r = (decide (40 < r.nm.size) || decide (300 < r.sh.length)) from rfl)
  by_cases h1 : 40 < r.nm.size
  · have t1 : decide ((40 : Int) < (r.nm.size : Int)) = true := decide_eq_true (by omega)
    rw [decide_eq_true h1, Bool.true_or] at hf
    go_enter Try.func51, Try.ntmps51
    go_wp2
    go_ret
    rw [hf.out]
    exact ⟨rfl, hB⟩
  · have t1 : decide ((40 : Int) < (r.nm.size : Int)) = false := decide_eq_false (by omega)
    rw [decide_eq_false h1, Bool.false_or] at hf
    go_enter Try.func51, Try.ntmps51
    go_wp2
    go_ret
    rw [hf.out]
    exact ⟨by simp; omega, hB⟩
def liveR (M : Rc) (v : Vl) (ep : Int) : Bool := (M.k == 2) && (M.a == v.a) && (M.e == ep)
set_option maxRecDepth 100000 in
set_option maxHeartbeats 1600000 in
theorem live_c (M S D : Rc) (u s x : Value) (v : Vl) (ep : Int) (bh bv : Nat) (w : World) (hH : Blk w bh (heldC M S D u s x) 35) (hV : Blk w bv (valC v) 33) :
   Calls Try.prog 85 #[.int .i64 ep, .pointer (some ⟨bh, 0, none⟩), .pointer (some ⟨bv, 0, none⟩)] w fun e w' => e = .returned (.bool (liveR M v ep)) ∧ w = w' := by
  have c0 := hH.cell 0 _ rfl
  have c2 := hH.cell 2 _ rfl
  have c3 := hH.cell 3 _ rfl
  have d1 := hV.cell 1 _ rfl
  have hf := Lib.hid (show liveR M v ep = ((M.k == 2) && (M.a == v.a) && (M.e == ep)) from rfl)
  clear hH hV
  generalize hb1 : (M.k == 2) = b1 at hf
  generalize hb2 : (M.a == v.a) = b2 at hf
  generalize hb3 : (M.e == ep) = b3 at hf
  go_enter Try.func85, Try.ntmps85
  cases b1 <;> cases b2 <;> cases b3
  all_goals
    go_wp2
    go_ret
    rw [hf.out]
    exact ⟨rfl, rfl⟩
end Go.Proofs.Ytacbenjfiabegaa
