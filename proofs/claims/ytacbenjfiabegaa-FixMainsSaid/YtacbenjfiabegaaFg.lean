/- The walk of the reference's Main. -/
import Derived.Test.YtacbenjfiabegaaFp
import Derived.Test.YtacbenjfiabegaaRz
namespace Go.Proofs.Ytacbenjfiabegaa
set_option linter.unusedVariables false
set_option linter.unusedSimpArgs false
open Go.RowKit Go.Proofs.YtacbenjfiabegaaW.PrintWords Go.Proofs.Sh

def c1 (M : Rc) (v : Vl) : Bool := (M.k == 2) && (M.a == v.a)
def cS (S : Rc) (v : Vl) : Bool := (S.k == 1) && (S.a == v.a) && (v.e == v.a)
def cD (M D : Rc) (v : Vl) : Bool := c1 M v && (D.k == 5) && (D.a == v.a) && (D.e == v.e) && (D.m == M.e)
theorem main_ref (M S D : Rc) (nm : ByteArray) (mk : Int) (v : Vl) : mainM M S D nm mk v =
   if v.p = false then ⟨4, nm, 0, 0, mk, 0, []⟩
   else if c1 M v && (M.e == v.e) then ⟨2, nm, v.a, v.e, mk, M.z, M.sh⟩
   else if cS S v then ⟨2, nm, v.a, v.e, mk, S.z, S.sh⟩
   else if cD M D v then ⟨2, nm, v.a, v.e, mk, M.z, F.zadd M.sh D.sh⟩
   else ⟨3, nm, v.a, v.e, mk, v.z, []⟩ := by
  have h1 : liveR M v v.e = (c1 M v && (M.e == v.e)) := rfl
  have h2 : ((D.k == 5) && (D.a == v.a) && (D.e == v.e) && liveR M v D.m) = cD M D v := by
    unfold liveR cD c1
    rw [show (M.e == D.m) = (D.m == M.e) from BEq.comm]
    generalize (M.k == 2) = x1
    generalize (M.a == v.a) = x2
    generalize (D.k == 5) = x3
    generalize (D.a == v.a) = x4
    generalize (D.e == v.e) = x5
    generalize (D.m == M.e) = x6
    cases x1 <;> cases x2 <;> cases x3 <;> cases x4 <;> cases x5 <;> cases x6 <;> rfl
  unfold mainM
  split
  · rfl
  · rename_i hp
    unfold shareM
    rw [if_neg hp, h1, h2]
    by_cases a1 : (c1 M v && (M.e == v.e)) = true
    · rw [if_pos a1, if_pos a1]; rfl
    · rw [if_neg a1, if_neg a1]
      by_cases a2 : cS S v = true
      · rw [if_pos a2]
        rw [if_pos (show ((S.k == 1) && (S.a == v.a) && (v.e == v.a)) = true from a2)]
        rfl
      · rw [if_neg a2]
        rw [if_neg (show ¬ ((S.k == 1) && (S.a == v.a) && (v.e == v.a)) = true from a2)]
        by_cases a3 : cD M D v = true
        · rw [if_pos a3, if_pos a3]; rfl
        · rw [if_neg a3, if_neg a3]; rfl
set_option maxRecDepth 100000 in
set_option maxHeartbeats 1600000 in
theorem rMain_c (M S D : Rc) (u s x : Value) (nm : ByteArray) (mk : Int) (v : Vl) (w : World) (hu : Rb w u M.sh) (hs : Rb w s S.sh) (hx : Rb w x D.sh) (b1 : M.sh.length ≤ 1000) (b2 : D.sh.length ≤ 1000) :
   Calls Try.prog 17 #[heldV M S D u s x, .string nm, .int .i64 mk, valV v] w fun e w' => ∃ sv, e = .returned (recV (mainM M S D nm mk v) sv) ∧ Rb w' sv (mainM M S D nm mk v).sh ∧ Below w.heap.size w w' := by
  have hm := Lib.hid (main_ref M S D nm mk v)
  obtain ⟨Au, cu, rfl⟩ := rk_form hu
  obtain ⟨As, cs, rfl⟩ := rk_form hs
  obtain ⟨Ax, cx, rfl⟩ := rk_form hx
  have hH := (Blk.new w (heldC M S D (.slice Au M.sh.length cu) (.slice As S.sh.length cs) (.slice Ax D.sh.length cx)) 26).alloc (.cells (valC v) 28)
  have hV := Blk.new' (w.alloc (.cells (heldC M S D (.slice Au M.sh.length cu) (.slice As S.sh.length cs) (.slice Ax D.sh.length cx)) 26)) (valC v) 28 (n := w.heap.size + 1) (World.size_alloc _ _)
  have hB := below_alloc (below_alloc (Below.refl w.heap.size w) (.cells (heldC M S D (.slice Au M.sh.length cu) (.slice As S.sh.length cs) (.slice Ax D.sh.length cx)) 26)) (.cells (valC v) 28)
  have hz : ((w.alloc (.cells (heldC M S D (.slice Au M.sh.length cu) (.slice As S.sh.length cs) (.slice Ax D.sh.length cx)) 26)).alloc (.cells (valC v) 28)).heap.size = w.heap.size + 2 := by rw [World.size_alloc, World.size_alloc]
  go_enter Try.func17, Try.ntmps17
  go_upto_region 1 with fail
  generalize ((w.alloc (.cells (heldC M S D (.slice Au M.sh.length cu) (.slice As S.sh.length cs) (.slice Ax D.sh.length cx)) 26)).alloc (.cells (valC v) 28)) = w0 at *
  have d0 : w0.cell? ⟨w.heap.size + 1, 0, none⟩ = some (.bool v.p) := hV.cell 0 _ rfl
  cases hp : v.p with
  | false =>
    rw [hp, if_pos rfl] at hm
    rw [hp] at d0
    have d0 := pw_cell_below (below_alloc (Below.refl w0.heap.size w0) (.cells #[.int .i64 0, .string { data := #[] }, .int .i64 0, .int .i64 0, .int .i64 0, .int .i64 0, .slice none 0 0] 24)) d0
    go_wp2
    refine bodyPost_ret (results_cell_row rfl _ _ (w.heap.size + 2) 24 #[.int .i64 4, .string nm, .int .i64 0, .int .i64 0, .int .i64 mk, .int .i64 0, .slice none 0 0] (0, 0) _ rfl (Blk.new' w0 _ _ hz) Try.underlying24 rfl (by kernel_rfl)) rfl ?_
    rw [hm.out]
    exact ⟨_, rfl, nilB _, below_alloc hB _⟩
  | true =>
    rw [hp, if_neg (by decide)] at hm
    rw [hp] at d0
    have d1 : w0.cell? ⟨w.heap.size + 1, 1, none⟩ = some (.int .i64 v.a) := hV.cell 1 _ rfl
    have d2 : w0.cell? ⟨w.heap.size + 1, 2, none⟩ = some (.int .i64 v.e) := hV.cell 2 _ rfl
    have hb1 := below_alloc (Below.refl w0.heap.size w0) (.cells #[.int .i64 0, .string { data := #[] }, .int .i64 0, .int .i64 0, .int .i64 0, .int .i64 0, .slice none 0 0] 24)
    have d0 := pw_cell_below hb1 d0
    have d1 := pw_cell_below hb1 d1
    have d2 := pw_cell_below hb1 d2
    have hH2 := (hH.alloc (.cells #[.int .i64 0, .string { data := #[] }, .int .i64 0, .int .i64 0, .int .i64 0, .int .i64 0, .slice none 0 0] 24)).alloc (.cells #[.int .i64 2, .string nm, .int .i64 v.a, .int .i64 v.e, .int .i64 mk, .int .i64 0, .slice none 0 0] 24)
    have hV2 := (hV.alloc (.cells #[.int .i64 0, .string { data := #[] }, .int .i64 0, .int .i64 0, .int .i64 0, .int .i64 0, .slice none 0 0] 24)).alloc (.cells #[.int .i64 2, .string nm, .int .i64 v.a, .int .i64 v.e, .int .i64 mk, .int .i64 0, .slice none 0 0] 24)
    have h8 := (Blk.new' w0 #[.int .i64 0, .string { data := #[] }, .int .i64 0, .int .i64 0, .int .i64 0, .int .i64 0, .slice none 0 0] 24 hz).alloc (.cells #[.int .i64 2, .string nm, .int .i64 v.a, .int .i64 v.e, .int .i64 mk, .int .i64 0, .slice none 0 0] 24)
    have h9 := Blk.new' (w0.alloc (.cells #[.int .i64 0, .string { data := #[] }, .int .i64 0, .int .i64 0, .int .i64 0, .int .i64 0, .slice none 0 0] 24)) #[.int .i64 2, .string nm, .int .i64 v.a, .int .i64 v.e, .int .i64 mk, .int .i64 0, .slice none 0 0] 24 (n := w.heap.size + 2 + 1) (by rw [World.size_alloc, hz])
    have hb2 := below_alloc hb1 (.cells #[.int .i64 2, .string nm, .int .i64 v.a, .int .i64 v.e, .int .i64 mk, .int .i64 0, .slice none 0 0] 24)
    replace hB := bt_ hB hb2
    clear hb1 hb2 hH hV
    go_upto_region 4 with fail
    generalize ((w0.alloc (.cells #[.int .i64 0, .string { data := #[] }, .int .i64 0, .int .i64 0, .int .i64 0, .int .i64 0, .slice none 0 0] 24)).alloc (.cells #[.int .i64 2, .string nm, .int .i64 v.a, .int .i64 v.e, .int .i64 mk, .int .i64 0, .slice none 0 0] 24)) = w3 at *
    clear d0 d1 d2 hz
    have e0 : w3.cell? ⟨w.heap.size, 0, none⟩ = some (.int .i64 M.k) := hH2.cell 0 _ rfl
    have e2 : w3.cell? ⟨w.heap.size, 2, none⟩ = some (.int .i64 M.a) := hH2.cell 2 _ rfl
    have e3 : w3.cell? ⟨w.heap.size, 3, none⟩ = some (.int .i64 M.e) := hH2.cell 3 _ rfl
    have e5 : w3.cell? ⟨w.heap.size, 5, none⟩ = some (.int .i64 M.z) := hH2.cell 5 _ rfl
    have e6 : w3.cell? ⟨w.heap.size, 6, none⟩ = some (.slice Au M.sh.length cu) := hH2.cell 6 _ rfl
    have e7 : w3.cell? ⟨w.heap.size, 7, none⟩ = some (.int .i64 S.k) := hH2.cell 7 _ rfl
    have e9 : w3.cell? ⟨w.heap.size, 9, none⟩ = some (.int .i64 S.a) := hH2.cell 9 _ rfl
    have e12 : w3.cell? ⟨w.heap.size, 12, none⟩ = some (.int .i64 S.z) := hH2.cell 12 _ rfl
    have e13 : w3.cell? ⟨w.heap.size, 13, none⟩ = some (.slice As S.sh.length cs) := hH2.cell 13 _ rfl
    have e14 : w3.cell? ⟨w.heap.size, 14, none⟩ = some (.int .i64 D.k) := hH2.cell 14 _ rfl
    have e16 : w3.cell? ⟨w.heap.size, 16, none⟩ = some (.int .i64 D.a) := hH2.cell 16 _ rfl
    have e17 : w3.cell? ⟨w.heap.size, 17, none⟩ = some (.int .i64 D.e) := hH2.cell 17 _ rfl
    have e18 : w3.cell? ⟨w.heap.size, 18, none⟩ = some (.int .i64 D.m) := hH2.cell 18 _ rfl
    have e20 : w3.cell? ⟨w.heap.size, 20, none⟩ = some (.slice Ax D.sh.length cx) := hH2.cell 20 _ rfl
    have f1 : w3.cell? ⟨w.heap.size + 1, 1, none⟩ = some (.int .i64 v.a) := hV2.cell 1 _ rfl
    have f2 : w3.cell? ⟨w.heap.size + 1, 2, none⟩ = some (.int .i64 v.e) := hV2.cell 2 _ rfl
    have f3 : w3.cell? ⟨w.heap.size + 1, 3, none⟩ = some (.int .i64 v.z) := hV2.cell 3 _ rfl
    clear hH2 hV2
    skip
    go_cut [10] (fun sx wc => sx = .bool (c1 M v) ∧ wc = w3)
    case first =>
      generalize hb1 : (M.k == 2) = x1
      generalize hb2 : (M.a == v.a) = x2
      clear hm h8 h9
      cases x1 <;> cases x2
      all_goals
        go_wp2_with fail
        go_meet
        exact ⟨by simp [c1, hb1, hb2], rfl⟩
    case rest =>
      obtain ⟨rfl, rfl⟩ := hcut
      have hcD := Lib.hid (show cD M D v = (c1 M v && (D.k == 5) && (D.a == v.a) && (D.e == v.e) && (D.m == M.e)) from rfl)
      generalize c1 M v = x1 at *
      go_upto_region 5 with fail
      go_cut [44] (fun sx wd => sx = .bool (x1 && (M.e == v.e)) ∧ wd = wc)
      case first =>
        generalize hb2 : (M.e == v.e) = x2
        clear hm h8 h9
        cases x1 <;> cases x2
        all_goals
          go_wp2_with fail
          go_meet
          exact ⟨by simp [hb2], rfl⟩
      case rest =>
        obtain ⟨rfl, rfl⟩ := hcut
        cases ha : (x1 && (M.e == v.e)) with
        | true =>
          rw [ha, if_pos rfl] at hm
          clear ha
          have y8 := blk_frozen h8
          have y9 := blk_frozen h9
          obtain ⟨p0, p1, p2, p3, p4, p5, p6⟩ := cells7 h8
          obtain ⟨q0, q1, q2, q3, q4, q5, q6⟩ := cells7 h9
          go_wp2
          have h8n := put7 (Blk.far (Blk.far h8 (show w.heap.size + 2 ≠ w.heap.size + 2 + 1 by omega) 5 (.int .i64 M.z)) (show w.heap.size + 2 ≠ w.heap.size + 2 + 1 by omega) 6 (.slice Au M.sh.length cu)) (.int .i64 2) (.string nm) (.int .i64 v.a) (.int .i64 v.e) (.int .i64 mk) (.int .i64 M.z) (.slice Au M.sh.length cu)
          have hBn := below7 (below_set (below_set hB (show w.heap.size ≤ w.heap.size + 2 + 1 by omega) (j := 5) (v := .int .i64 M.z)) (show w.heap.size ≤ w.heap.size + 2 + 1 by omega) (j := 6) (v := .slice Au M.sh.length cu)) (show w.heap.size ≤ w.heap.size + 2 by omega) (.int .i64 2) (.string nm) (.int .i64 v.a) (.int .i64 v.e) (.int .i64 mk) (.int .i64 M.z) (.slice Au M.sh.length cu)
          refine bodyPost_ret (results_cell_row rfl _ _ (w.heap.size + 2) 24 #[.int .i64 2, .string nm, .int .i64 v.a, .int .i64 v.e, .int .i64 mk, .int .i64 M.z, .slice Au M.sh.length cu] (0, 0) _ rfl h8n Try.underlying24 rfl (by kernel_rfl)) rfl ?_
          rw [hm.out]
          exact ⟨_, rfl, hu.below hBn, hBn⟩
        | false =>
          rw [ha, if_neg (by decide)] at hm
          clear ha
          go_upto_region 9 with fail
          go_cut [72] (fun sx we => sx = .bool (cS S v) ∧ we = wc)
          case first =>
            generalize hb1 : (S.k == 1) = x1
            generalize hb2 : (S.a == v.a) = x2
            generalize hb3 : (v.e == v.a) = x3
            clear hm h8 h9
            cases x1 <;> cases x2 <;> cases x3
            all_goals
              go_wp2_with fail
              go_meet
              exact ⟨by simp [cS, hb1, hb2, hb3], rfl⟩
          case rest =>
            obtain ⟨rfl, rfl⟩ := hcut
            cases hb : cS S v with
            | true =>
              rw [hb, if_pos rfl] at hm
              clear hb
              have y8 := blk_frozen h8
              have y9 := blk_frozen h9
              obtain ⟨p0, p1, p2, p3, p4, p5, p6⟩ := cells7 h8
              obtain ⟨q0, q1, q2, q3, q4, q5, q6⟩ := cells7 h9
              go_wp2
              have h8n := put7 (Blk.far (Blk.far h8 (show w.heap.size + 2 ≠ w.heap.size + 2 + 1 by omega) 5 (.int .i64 S.z)) (show w.heap.size + 2 ≠ w.heap.size + 2 + 1 by omega) 6 (.slice As S.sh.length cs)) (.int .i64 2) (.string nm) (.int .i64 v.a) (.int .i64 v.e) (.int .i64 mk) (.int .i64 S.z) (.slice As S.sh.length cs)
              have hBn := below7 (below_set (below_set hB (show w.heap.size ≤ w.heap.size + 2 + 1 by omega) (j := 5) (v := .int .i64 S.z)) (show w.heap.size ≤ w.heap.size + 2 + 1 by omega) (j := 6) (v := .slice As S.sh.length cs)) (show w.heap.size ≤ w.heap.size + 2 by omega) (.int .i64 2) (.string nm) (.int .i64 v.a) (.int .i64 v.e) (.int .i64 mk) (.int .i64 S.z) (.slice As S.sh.length cs)
              refine bodyPost_ret (results_cell_row rfl _ _ (w.heap.size + 2) 24 #[.int .i64 2, .string nm, .int .i64 v.a, .int .i64 v.e, .int .i64 mk, .int .i64 S.z, .slice As S.sh.length cs] (0, 0) _ rfl h8n Try.underlying24 rfl (by kernel_rfl)) rfl ?_
              rw [hm.out]
              exact ⟨_, rfl, hs.below hBn, hBn⟩
            | false =>
              rw [hb, if_neg (by decide)] at hm
              clear hb
              go_upto_region 13 with fail
              go_cut [113] (fun sx wf => sx = .bool (cD M D v) ∧ wf = wc)
              case first =>
                generalize hb1 : (D.k == 5) = y1
                generalize hb2 : (D.a == v.a) = y2
                generalize hb3 : (D.e == v.e) = y3
                generalize hb4 : (D.m == M.e) = y4
                clear hm h8 h9
                cases x1 <;> cases y1 <;> cases y2 <;> cases y3 <;> cases y4
                all_goals
                  go_wp2_with fail
                  go_meet
                  exact ⟨by rw [hcD.out]; simp [hb1, hb2, hb3, hb4], rfl⟩
              case rest =>
                obtain ⟨rfl, rfl⟩ := hcut
                clear hcD
                have y8 := blk_frozen h8
                have y9 := blk_frozen h9
                cases hc : cD M D v with
                | true =>
                  rw [hc, if_pos rfl] at hm
                  clear hc
                  obtain ⟨q0, q1, q2, q3, q4, q5, q6⟩ := cells7 h9
                  have h8a := Blk.far h8 (show w.heap.size + 2 ≠ w.heap.size + 2 + 1 by omega) 5 (.int .i64 M.z)
                  have h9a := blk_put h9 5 (.int .i64 M.z) rfl
                  have hBa := below_set hB (show w.heap.size ≤ w.heap.size + 2 + 1 by omega) (j := 5) (v := .int .i64 M.z)
                  have hadd := Lib.hid (rAdd12_c _ _ M.sh D.sh _ (hu.below hBa) (hx.below hBa) (by omega))
                  go_wp2_with fail
                  refine hadd.out.mono ?_
                  rintro e w5 ⟨z5, rfl, o5, h5⟩
                  clear hadd
                  generalize F.zadd M.sh D.sh = t at *
                  obtain ⟨A5, c5, rfl⟩ := rk_form o5.rk
                  have h8b : Blk w5 _ _ _ := Blk.below h8a h5
                  have h9b : Blk w5 _ _ _ := Blk.below h9a h5
                  have hBb := bt_ hBa h5
                  have n9 := own_ne (own_b o5) h9b (by decide)
                  have n8 := own_ne (own_b o5) h8b (by decide)
                  clear h8 h9 h8a h9a hBa hB y8 y9 q0 q1 q2 q3 q4 q5 q6 e0 e2 e3 e5 e6 e7 e9 e12 e13 e14 e16 e17 e18 e20 f1 f2 f3 h5
                  have y8 := blk_frozen h8b
                  have y9 := blk_frozen h9b
                  obtain ⟨p0, p1, p2, p3, p4, p5, p6⟩ := cells7 h8b
                  obtain ⟨q0, q1, q2, q3, q4, q5, q6⟩ := cells7 h9b
                  go_wp2
                  have hO := far7 (Rk.far o5 n9 6 (.slice A5 t.length c5)) n8 (.int .i64 2) (.string nm) (.int .i64 v.a) (.int .i64 v.e) (.int .i64 mk) (.int .i64 M.z) (.slice A5 t.length c5)
                  have h8n := put7 (Blk.far h8b (show w.heap.size + 2 ≠ w.heap.size + 2 + 1 by omega) 6 (.slice A5 t.length c5)) (.int .i64 2) (.string nm) (.int .i64 v.a) (.int .i64 v.e) (.int .i64 mk) (.int .i64 M.z) (.slice A5 t.length c5)
                  have hBn := below7 (below_set hBb (show w.heap.size ≤ w.heap.size + 2 + 1 by omega) (j := 6) (v := .slice A5 t.length c5)) (show w.heap.size ≤ w.heap.size + 2 by omega) (.int .i64 2) (.string nm) (.int .i64 v.a) (.int .i64 v.e) (.int .i64 mk) (.int .i64 M.z) (.slice A5 t.length c5)
                  refine bodyPost_ret (results_cell_row rfl _ _ (w.heap.size + 2) 24 #[.int .i64 2, .string nm, .int .i64 v.a, .int .i64 v.e, .int .i64 mk, .int .i64 M.z, .slice A5 t.length c5] (0, 0) _ rfl h8n Try.underlying24 rfl (by kernel_rfl)) rfl ?_
                  rw [hm.out]
                  exact ⟨_, rfl, hO.rk, hBn⟩
                | false =>
                  rw [hc, if_neg (by decide)] at hm
                  clear hc
                  obtain ⟨p0, p1, p2, p3, p4, p5, p6⟩ := cells7 h8
                  obtain ⟨q0, q1, q2, q3, q4, q5, q6⟩ := cells7 h9
                  go_wp2
                  have h8n := put7 (Blk.far (Blk.far h8 (show w.heap.size + 2 ≠ w.heap.size + 2 + 1 by omega) 0 (.int .i64 3)) (show w.heap.size + 2 ≠ w.heap.size + 2 + 1 by omega) 5 (.int .i64 v.z)) (.int .i64 3) (.string nm) (.int .i64 v.a) (.int .i64 v.e) (.int .i64 mk) (.int .i64 v.z) (.slice none 0 0)
                  have hBn := below7 (below_set (below_set hB (show w.heap.size ≤ w.heap.size + 2 + 1 by omega) (j := 0) (v := .int .i64 3)) (show w.heap.size ≤ w.heap.size + 2 + 1 by omega) (j := 5) (v := .int .i64 v.z)) (show w.heap.size ≤ w.heap.size + 2 by omega) (.int .i64 3) (.string nm) (.int .i64 v.a) (.int .i64 v.e) (.int .i64 mk) (.int .i64 v.z) (.slice none 0 0)
                  refine bodyPost_ret (results_cell_row rfl _ _ (w.heap.size + 2) 24 #[.int .i64 3, .string nm, .int .i64 v.a, .int .i64 v.e, .int .i64 mk, .int .i64 v.z, .slice none 0 0] (0, 0) _ rfl h8n Try.underlying24 rfl (by kernel_rfl)) rfl ?_
                  rw [hm.out]
                  exact ⟨_, rfl, nilB _, hBn⟩
end Go.Proofs.Ytacbenjfiabegaa
