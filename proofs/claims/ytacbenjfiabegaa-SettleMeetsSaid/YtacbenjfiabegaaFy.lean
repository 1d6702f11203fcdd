/- The walk of fix.share. -/
import Derived.Test.YtacbenjfiabegaaFx
import Derived.Test.YtacbenjfiabegaaZe
import Derived.Test.YtacbenjfiabegaaK6
namespace Go.Proofs.Ytacbenjfiabegaa
set_option linter.unusedVariables false
set_option linter.unusedSimpArgs false
open Go.RowKit Go.Proofs.YtacbenjfiabegaaW.PrintWords Go.Proofs.Sh

theorem nilB (w : World) : Rb w (.slice none 0 0) [] := (show Ob w w (.slice none 0 0) [] from Own.nil _ _ _ _).rk
/-- The size and the share that a value would have; false: there is none. -/
def shareM (M S D : Rc) (v : Vl) : Bool × Int × List F :=
  if v.p = false then (false, 0, [])
  else if liveR M v v.e then (true, M.z, M.sh)
  else if (S.k == 1) && (S.a == v.a) && (v.e == v.a) then (true, S.z, S.sh)
  else if (D.k == 5) && (D.a == v.a) && (D.e == v.e) && liveR M v D.m then (true, M.z, F.zadd M.sh D.sh)
  else (false, 0, [])
set_option maxRecDepth 100000 in
set_option maxHeartbeats 3200000 in
theorem share_c (M S D : Rc) (u s x : Value) (v : Vl) (w : World) (hu : Rb w u M.sh) (hs : Rb w s S.sh) (hx : Rb w x D.sh) (b1 : M.sh.length ≤ 1000) (b2 : D.sh.length ≤ 1000) :
   Calls Try.prog 52 #[heldV M S D u s x, valV v] w fun e w' => ∃ sv, e = .returned (.tuple #[.int .i64 (shareM M S D v).2.1, sv, .bool (shareM M S D v).1]) ∧ Rb w' sv (shareM M S D v).2.2 ∧ Below w.heap.size w w' := by
  have hH := (Blk.new w (heldC M S D u s x) 35).alloc (.cells (valC v) 33)
  have hV := Blk.new' (w.alloc (.cells (heldC M S D u s x) 35)) (valC v) 33 (n := w.heap.size + 1) (World.size_alloc _ _)
  have hB := below_alloc (below_alloc (Below.refl w.heap.size w) (.cells (heldC M S D u s x) 35)) (.cells (valC v) 33)
  replace hu := hu.below hB
  replace hs := hs.below hB
  replace hx := hx.below hB
  obtain ⟨Au, cu, rfl⟩ := rk_form hu
  obtain ⟨As, cs, rfl⟩ := rk_form hs
  obtain ⟨Ax, cx, rfl⟩ := rk_form hx
  have hsh := Lib.hid (show shareM M S D v = if v.p = false then (false, 0, []) else if liveR M v v.e then (true, M.z, M.sh) else if (S.k == 1) && (S.a == v.a) && (v.e == v.a) then (true, S.z, S.sh) else if (D.k == 5) && (D.a == v.a) && (D.e == v.e) && liveR M v D.m then (true, M.z, F.zadd M.sh D.sh) else (false, 0, []) from rfl)
  cases hp : v.p with
  | false =>
    rw [hp, if_pos rfl] at hsh
    rw [hsh.out]
    go_enter Try.func52, Try.ntmps52
    go_wp2
    go_ret3
    exact ⟨_, rfl, nilB _, hB⟩
  | true =>
    rw [hp, if_neg (by decide)] at hsh
    go_enter Try.func52, Try.ntmps52
    generalize hw0 : ((w.alloc (.cells (heldC M S D (.slice Au M.sh.length cu) (.slice As S.sh.length cs) (.slice Ax D.sh.length cx)) 35)).alloc (.cells (valC v) 33)) = w0 at hH hV hB hu hs hx
    have hw1 := Lib.hid hw0.symm
    clear hw0
    go_wp2_with fail
    rw [← hw1.out]
    clear hw1
    have c5 : w0.cell? ⟨w.heap.size, 5, none⟩ = some (.int .i64 M.z) := hH.cell 5 _ rfl
    have c6 : w0.cell? ⟨w.heap.size, 6, none⟩ = some (.slice Au M.sh.length cu) := hH.cell 6 _ rfl
    have c7 : w0.cell? ⟨w.heap.size, 7, none⟩ = some (.int .i64 S.k) := hH.cell 7 _ rfl
    have c9 : w0.cell? ⟨w.heap.size, 9, none⟩ = some (.int .i64 S.a) := hH.cell 9 _ rfl
    have c12 : w0.cell? ⟨w.heap.size, 12, none⟩ = some (.int .i64 S.z) := hH.cell 12 _ rfl
    have c13 : w0.cell? ⟨w.heap.size, 13, none⟩ = some (.slice As S.sh.length cs) := hH.cell 13 _ rfl
    have c14 : w0.cell? ⟨w.heap.size, 14, none⟩ = some (.int .i64 D.k) := hH.cell 14 _ rfl
    have c16 : w0.cell? ⟨w.heap.size, 16, none⟩ = some (.int .i64 D.a) := hH.cell 16 _ rfl
    have c17 : w0.cell? ⟨w.heap.size, 17, none⟩ = some (.int .i64 D.e) := hH.cell 17 _ rfl
    have c18 : w0.cell? ⟨w.heap.size, 18, none⟩ = some (.int .i64 D.m) := hH.cell 18 _ rfl
    have c20 : w0.cell? ⟨w.heap.size, 20, none⟩ = some (.slice Ax D.sh.length cx) := hH.cell 20 _ rfl
    have d1 : w0.cell? ⟨w.heap.size + 1, 1, none⟩ = some (.int .i64 v.a) := hV.cell 1 _ rfl
    have d2 : w0.cell? ⟨w.heap.size + 1, 2, none⟩ = some (.int .i64 v.e) := hV.cell 2 _ rfl
    refine (live_c M S D _ _ _ v v.e _ _ w0 hH hV).mono ?_
    rintro e w_ ⟨rfl, rfl⟩
    cases hL : liveR M v v.e with
    | true =>
      rw [hL, if_pos rfl] at hsh
      clear hL hH hV
      go_wp2_with fail
      go_quiet (fail)
      go_wp2
      go_ret3
      rw [hsh.out]
      exact ⟨_, rfl, hu.drewN _, pw_below_drewN hB _⟩
    | false =>
      rw [hL, if_neg (by decide)] at hsh
      clear hL
      go_upto_region 6 with fail
      go_cut [24] (fun s24 wc => s24 = .bool ((S.k == 1) && (S.a == v.a) && (v.e == v.a)) ∧ wc = w0)
      case first =>
        generalize hb1 : (S.k == 1) = b1
        generalize hb2 : (S.a == v.a) = b2
        generalize hb3 : (v.e == v.a) = b3
        clear hsh hH hV
        cases b1 <;> cases b2 <;> cases b3
        all_goals
          go_wp2_with fail
          go_meet
          exact ⟨by simp [hb1, hb2, hb3], rfl⟩
      case rest =>
        obtain ⟨rfl, rfl⟩ := hcut
        cases hS : ((S.k == 1) && (S.a == v.a) && (v.e == v.a)) with
        | true =>
          rw [hS, if_pos rfl] at hsh
          clear hS hH hV
          go_wp2_with fail
          go_quiet (fail)
          go_wp2
          go_ret3
          rw [hsh.out]
          exact ⟨_, rfl, hs.drewN _, pw_below_drewN hB _⟩
        | false =>
          rw [hS, if_neg (by decide)] at hsh
          clear hS
          go_upto_region 8 with fail
          go_cut [50] (fun s50 wd => s50 = .bool ((D.k == 5) && (D.a == v.a) && (D.e == v.e) && liveR M v D.m) ∧ wd = wc)
          case first =>
            generalize hb1 : (D.k == 5) = b1
            generalize hb2 : (D.a == v.a) = b2
            generalize hb3 : (D.e == v.e) = b3
            have l2 := Lib.hid (live_c M S D _ _ _ v D.m _ _ wc hH hV)
            clear hsh hH hV
            cases b1 <;> cases b2 <;> cases b3
            case true.true.true =>
              go_wp2_with fail
              refine l2.out.mono ?_
              rintro e w_ ⟨rfl, rfl⟩
              go_wp2_with fail
              go_meet
              exact ⟨by simp [hb1, hb2, hb3], rfl⟩
            all_goals
              go_wp2_with fail
              go_meet
              exact ⟨by simp [hb1, hb2, hb3], rfl⟩
          case rest =>
            obtain ⟨rfl, rfl⟩ := hcut
            cases hD : ((D.k == 5) && (D.a == v.a) && (D.e == v.e) && liveR M v D.m) with
            | true =>
              rw [hD, if_pos rfl] at hsh
              clear hD hV hH
              have hrr := lit_bb2 _ _ _ _ _ 22 hu hx
              have hlen : ∀ r ∈ [M.sh, D.sh], r.length ≤ 1000000 := fun r hr => by
                rcases List.mem_cons.1 hr with rfl | hr
                · omega
                · obtain rfl := List.mem_singleton.1 hr
                  omega
              go_wp2_with fail
              go_region_held3 (fun w' => w'.cell? ⟨w.heap.size, 5, none⟩ = some (.int .i64 M.z) ∧ w'.cell? ⟨w.heap.size, 6, none⟩ = some (.slice Au M.sh.length cu) ∧ w'.cell? ⟨w.heap.size, 20, none⟩ = some (.slice Ax D.sh.length cx))
                (go_keep)
                (first
                  | (go_at_call 86; refine (zAdd_c _ [M.sh, D.sh] _ (by first | exact hrr | exact hrr.drew | exact hrr.drewN _) (show 2 ≤ 1000 by decide) hlen).mono ?_; rintro e w6 ⟨z6, rfl, hz6, h6⟩; (repeat (first | replace h6 := ba h6 | replace h6 := buN h6 | replace h6 := bu h6)); have c5 := pw_cell_below h6 c5; have c6 := pw_cell_below h6 c6; have c20 := pw_cell_below h6 c20; have hB9 := bt_ hB h6)
                  | fail)
              all_goals
                go_wp2
                go_ret3
                rw [hsh.out]
                exact ⟨_, rfl, hz6.rk, hB9⟩
            | false =>
              rw [hD, if_neg (by decide)] at hsh
              clear hD hH hV
              go_wp2
              go_ret3
              rw [hsh.out]
              exact ⟨_, rfl, nilB _, hB⟩
end Go.Proofs.Ytacbenjfiabegaa
