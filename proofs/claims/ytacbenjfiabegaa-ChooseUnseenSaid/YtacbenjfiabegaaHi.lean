/- The walk of sherdref37.Rest. -/
import Derived.Test.YtacbenjfiabegaaHg
import Derived.Test.YtacbenjfiabegaaHr
import Derived.Deep.RegionHeld3
namespace Go.Proofs.Ytacbenjfiabegaa
set_option linter.unusedVariables false
set_option linter.unusedSimpArgs false
open Go.RowKit Go.Proofs.YtacbenjfiabegaaW.PrintWords Go.Proofs.Sh

theorem rest_zero (l z : List Int) : IsRest (l.take 0) z [] := ⟨List.Pairwise.nil, fun y => by simp⟩
theorem rest_skip {l z out : List Int} {k : Nat} (hk : k < l.length) (h : IsRest (l.take k) z out) (hx : l.getD k 0 ∈ z ∨ l.getD k 0 ∈ out) : IsRest (l.take (k + 1)) z out := by
  refine ⟨h.1, fun y => ?_⟩
  rw [mem_take_succ l y k hk, h.2]
  constructor
  · exact fun a => ⟨.inl a.1, a.2⟩
  · rintro ⟨a | rfl, b⟩
    · exact ⟨a, b⟩
    · rcases hx with hx | hx
      · exact absurd hx b
      · exact (h.2 _).1 hx
theorem rest_put {l z out : List Int} {k i : Nat} (hk : k < l.length) (h : IsRest (l.take k) z out) (hz : l.getD k 0 ∉ z) (ho : l.getD k 0 ∉ out) (hi : i ≤ out.length)
    (h1 : ∀ y ∈ out.take i, y < l.getD k 0) (h2 : i < out.length → ¬ out.getD i 0 < l.getD k 0) : IsRest (l.take (k + 1)) z (out.take i ++ ([l.getD k 0] ++ out.drop i)) := by
  generalize hx : l.getD k 0 = x at *
  have hpw := h.1
  rw [← List.take_append_drop i out, List.pairwise_append] at hpw
  have h3 : ∀ y ∈ out.drop i, x < y := by
    intro y hy
    by_cases hlt : i < out.length
    · have hd : out.drop i = out.getD i 0 :: out.drop (i + 1) := by
        rw [List.drop_eq_getElem_cons hlt, List.getD_eq_getElem?_getD, List.getElem?_eq_getElem hlt]
        rfl
      have hm : out.getD i 0 ∈ out := by rw [List.getD_eq_getElem?_getD, List.getElem?_eq_getElem hlt]; exact List.getElem_mem hlt
      have h4 : x < out.getD i 0 := by
        have := h2 hlt
        have : out.getD i 0 ≠ x := fun e => ho (e ▸ hm)
        omega
      have hp2 := hpw.2.1
      rw [hd] at hy hp2
      rw [List.pairwise_cons] at hp2
      rw [List.mem_cons] at hy
      rcases hy with rfl | hy
      · exact h4
      · have := hp2.1 y hy
        omega
    · rw [List.drop_of_length_le (by omega)] at hy
      cases hy
  refine ⟨?_, fun y => ?_⟩
  · rw [List.pairwise_append]
    refine ⟨hpw.1, ?_, fun a ha b hb => ?_⟩
    · rw [List.singleton_append, List.pairwise_cons]
      exact ⟨h3, hpw.2.1⟩
    · rw [List.singleton_append, List.mem_cons] at hb
      rcases hb with rfl | hb
      · exact h1 a ha
      · exact hpw.2.2 a ha b hb
  · rw [mem_take_succ l y k hk, hx, List.mem_append, List.mem_append, List.mem_singleton]
    have hy := h.2 y
    rw [← List.take_append_drop i out, List.mem_append] at hy
    constructor
    · rintro (a | rfl | a)
      · have := hy.1 (.inl a); exact ⟨.inl this.1, this.2⟩
      · exact ⟨.inr rfl, hz⟩
      · have := hy.1 (.inr a); exact ⟨.inl this.1, this.2⟩
    · rintro ⟨a | rfl, b⟩
      · rcases hy.2 ⟨a, b⟩ with c | c
        · exact .inl c
        · exact .inr (.inr c)
      · exact .inr (.inl rfl)
theorem ri_right {w : World} {A : Option Addr} {c : Nat} {r : List Int} (h : Ri w (.slice A r.length c) r) (m : Nat) (hm : m ≤ r.length) : Ri w (.slice (if c = m then A else A.map (·.add (m * 1))) (r.length - m) (c - m)) (r.drop m) := by
  have := Kd.C_drop (c := c) (rk_C h) hm (rk_cap h)
  exact ⟨_, c - m, by rw [List.length_drop]; rfl, by rw [List.length_drop]; have := rk_cap h; omega, this⟩
theorem ri_left {w : World} {A : Option Addr} {c : Nat} {r : List Int} (h : Ri w (.slice A r.length c) r) (m : Nat) (hm : m ≤ r.length) : Ri w (.slice A m c) (r.take m) :=
  ⟨A, c, by rw [List.length_take, Nat.min_eq_left hm], by rw [List.length_take]; have := rk_cap h; omega, Kd.C_take (rk_C h) hm⟩
theorem all_take_succ {out : List Int} {x : Int} {i : Nat} (h : i < out.length) (h1 : ∀ y ∈ out.take i, y < x) (h2 : out.getD i 0 < x) : ∀ y ∈ out.take (i + 1), y < x := by
  intro y hy
  rcases (mem_take_succ out y i h).1 hy with a | rfl
  · exact h1 y a
  · exact h2
theorem int_info : ∃ i, Try.prog.info? 3 = some i ∧ i.size = 1 := by
  have h := infoI
  cases hi : Try.prog.info? 3 with
  | none => rw [hi] at h; cases h
  | some i =>
    rw [hi] at h
    simp only [Option.map_some, Option.some.injEq, Prod.mk.injEq] at h
    exact ⟨i, rfl, h.2.1⟩
theorem cutB_i (A : Option Addr) (n c i : Nat) (h : i ≤ n) (W : World) : (Instr.slice 53 (.slice A n c) (some (.int .i64 i)) none none).run Try.prog W = .ok (.slice (if c = i then A else A.map (·.add (i * 1))) (n - i) (c - i)) W := by
  obtain ⟨ii, hi, hsz⟩ := int_info
  have := cut_from (P := Try.prog) 53 3 .i64 Try.underlying53 hi 1 hsz A n c (i : Int) (by omega) (by omega) W
  rwa [Int.toNat_natCast] at this
theorem cutA_i (A : Option Addr) (n c i : Nat) (h : i ≤ n) (hc : n ≤ c) (W : World) : (Instr.slice 53 (.slice A n c) none (some (.int .i64 i)) none).run Try.prog W = .ok (.slice A i c) W := by
  obtain ⟨ii, hi, hsz⟩ := int_info
  have := cut_to (P := Try.prog) 53 3 .i64 Try.underlying53 hi A n c (i : Int) (by omega) (by omega) hc W
  rwa [Int.toNat_natCast] at this
set_option maxRecDepth 100000 in
set_option maxHeartbeats 3200000 in
theorem rcRest_c (u z : Value) (l zs : List Int) (w : World) (hu : Ri w u l) (hz : Ri w z zs) (hl : l.length ≤ 100000) :
   Calls Try.prog 50 #[u, z] w fun e w' => ∃ v r, e = .returned v ∧ Ri w' v r ∧ Below w.heap.size w w' ∧ IsRest l zs r := by
  obtain ⟨A, c, rfl, hc, hr⟩ := hu
  replace hz := Lib.hid hz
  go_enter Try.func50, Try.ntmps50
  go_wp2_with fail
  go_loopw [5, 6] (fun v i wr => ∃ (k : Nat) (out : List Int), i = .int .i64 k ∧ k ≤ l.length ∧ out.length ≤ k ∧ Oi w wr v out ∧ Below w.heap.size w wr ∧ Hid (IsRest (l.take k) zs out)) (fun _ i _ => l.length - (intOf i).toNat)
  case atStart => exact ⟨0, [], rfl, by omega, by simp, Own.nil _ _ _ _, Below.refl _ _, Lib.hid (rest_zero l zs)⟩
  case round =>
    obtain ⟨k, out, rfl, hk, hol, hO, hB, hI⟩ := hrel
    obtain ⟨A1, n1, rfl⟩ := rk_form (Own.rk hO)
    by_cases hlt : k < l.length
    · obtain ⟨ad, rfl, c1⟩ := ki_at hr k hlt
      have c1 := pw_cell_below hB c1
      have hskip := Lib.hid (fun h => rest_skip hlt hI.out h)
      have hput := Lib.hid (fun hz ho i hi h1 h2 => rest_put (i := i) hlt hI.out hz ho hi h1 h2)
      have hh1 := rHas_c z zs (l.getD k 0) wr (hz.out.below hB)
      have hh2 := rHas_c (.slice A1 out.length n1) out (l.getD k 0) wr (Own.rk hO)
      clear hI
      generalize l.getD k 0 = x at *
      go_wp2_with fail
      refine hh1.mono ?_
      rintro e w2 ⟨rfl, rfl⟩
      clear hh1
      by_cases hx : x ∈ zs
      · rw [decide_eq_true hx]
        have h1 := Lib.hid (hskip.out (.inl hx))
        clear hx hskip hput hh2
        go_wp2
        exact ⟨⟨k + 1, out, by go_num, by omega, by omega, hO, hB, h1⟩, by simp [intOf]; omega⟩
      · rw [decide_eq_false hx]
        go_wp2_with fail
        refine hh2.mono ?_
        rintro e w3 ⟨rfl, rfl⟩
        clear hh2
        by_cases hx2 : x ∈ out
        · rw [decide_eq_true hx2]
          have h1 := Lib.hid (hskip.out (.inr hx2))
          clear hx hx2 hskip hput
          go_wp2
          exact ⟨⟨k + 1, out, by go_num, by omega, by omega, hO, hB, h1⟩, by simp [intOf]; omega⟩
        · rw [decide_eq_false hx2]
          replace hput := Lib.hid (hput.out hx hx2)
          clear hx hx2 hskip
          go_wp2_with fail
          go_loopw [7] (fun j wq => ∃ i : Nat, i ≤ out.length ∧ j = .int .i64 i ∧ Hid (∀ y ∈ out.take i, y < x) ∧ Drawn0 wr wq) (fun j _ => out.length - (intOf j).toNat)
          case atStart => exact ⟨0, by omega, rfl, Lib.hid (by simp), Drawn0.refl _⟩
          case round =>
            obtain ⟨i, hi, rfl, ha, hD⟩ := hrel
            replace hO := hO.drawn hD
            replace hB := bt_ hB hD.below
            have c2 := pw_cell_below hD.below c1
            by_cases hlt2 : i < out.length
            · obtain ⟨ad2, rfl, d2⟩ := ki_at (rk_C (Own.rk hO)) i hlt2
              have hs := Lib.hid (fun h => all_take_succ hlt2 ha.out h)
              have hp := Lib.hid (fun h => hput.out i hi ha.out (fun _ => h))
              generalize out.getD i 0 = y at *
              by_cases hy : y < x
              · have t1 : decide (y < x) = true := decide_eq_true hy
                have h1 := Lib.hid (hs.out hy)
                clear hs hp hput hy
                go_wp2
                go_quiet (fail)
                go_wp2
                exact ⟨⟨i + 1, by omega, by go_num, h1, hD.step _⟩, by simp [intOf]; omega⟩
              · have t1 : decide (y < x) = false := decide_eq_false hy
                have h1 := Lib.hid (hp.out (by omega))
                clear hs hp hput hy
                go_wp2
                go_quiet (fail)
                go_wp2
                rename_i nq _ _
                have hB9 : Below wr.heap.size wr (wr.drewN nq) := below_drewN (Below.refl _ _) nq
                have c3 := pw_cell_below hB9 c2
                replace hO := hO.below hB9
                replace hB := bt_ hB hB9
                generalize wr.drewN nq = wB at *
                clear hB9 d2 t1 c2 hD ha
                have hcap := rk_cap (Own.rk hO)
                have hcutA := fun W => cutA_i ((some ad2)) out.length n1 i hi hcap W
                have hcutB := fun W => cutB_i ((some ad2)) out.length n1 i hi W
                have hR := Lib.hid (ri_right (Own.rk hO) i hi)
                have hRl := Lib.hid (ri_left (Own.rk hO) i hi)
                generalize (if n1 = i then ((some ad2)) else ((some ad2) : Option Addr).map (·.add (i * 1))) = A2 at *
                generalize hnn : out.length - i = nn at *
                generalize hcc : n1 - i = cc at *
                have hdl : Hid ((out.drop i).length = nn) := Lib.hid (by rw [List.length_drop]; exact hnn)
                have hxl : Hid ((([x] : List Int).length + (out.drop i).length) * 8 ≤ 140737488355328) := Lib.hid (by rw [hdl.out]; simp; omega)
                have hxl2 : Hid ((([] : List Int).length + (out.take i).length) * 8 ≤ 140737488355328) := Lib.hid (by rw [List.length_take]; simp; omega)
                have hxl3 : Hid (((out.take i).length + ([x] ++ out.drop i).length) * 8 ≤ 140737488355328) := Lib.hid (by rw [List.length_append, hdl.out, List.length_take]; simp; omega)
                have hfl : (out.take i ++ ([x] ++ out.drop i)).length ≤ k + 1 := by rw [List.length_append, List.length_append, List.length_take, List.length_drop]; simp; omega
                replace hfl := Lib.hid hfl
                generalize out.drop i = dr at *
                generalize out.take i = tk at *
                have hB0 := Below.refl wB.heap.size wB
                replace hB := Lib.hid hB
                replace hO := Lib.hid hO
                clear hnn hcc hcap
                go_region_held3 (fun w' => w'.cell? (ad.add k) = some (.int .i64 x))
                  (go_keep)
                  (first
                  | (refine step_app_many (enc := Value.int .i64) (w0 := wB) (by rfl) (.tmp 50) (.tmp 53) 53 3 (.int .i64 0) 8 (by rfl) Try.underlying53 infoI (by rfl) (by decide) _ [x] dr _ (by rfl) (by rfl) (lit_ownI [x] #[.int .i64 x] rfl 1 rfl (by decide) (by first | exact Nat.le_refl _ | exact (below_drew (Below.refl _ _)).size)) (hR.out.below (by first | exact below_alloc (Below.refl _ _) _ | exact below_alloc (below_drew (Below.refl _ _)) _)) (by first | exact below_alloc (Below.refl _ _) _ | exact below_alloc (below_drew (Below.refl _ _)) _) hxl.out ?_; intro v8 w8 hO8 hB8 hg8; have c8 := pw_cell_below hB8 c3)
                  | fail)
                have hL0 := lit_ownI (w0 := w8) (W := w8) [] #[] rfl 0 rfl (by decide) (Nat.le_refl _)
                have hb9 := below_alloc (Below.refl w8.heap.size w8) (.cells #[] 3)
                have hRl8 := (hRl.out.below hB8).below hb9
                have hbb := bt_ hB.out hB8
                clear hB8 hg8 hRl hB0 c3 c8
                go_wp2_with (first
                  | (at_builtin; refine app_many (enc := Value.int .i64) rfl (.tmp 55) (.tmp 58) 53 3 (.int .i64 0) 8 rfl Try.underlying53 infoI rfl (by decide) _ [] tk _ rfl rfl hL0 hRl8 hb9 hxl2.out ?_; intro v1 w9 ho1 hb1 hg1; replace ho1 : Oi w8 w9 v1 tk := ho1; replace hO8 := Own.rk (hO8.below hb1))
                  | (at_builtin; refine app_many (enc := Value.int .i64) rfl (.tmp 59) (.tmp 60) 53 3 (.int .i64 0) 8 rfl Try.underlying53 infoI rfl (by decide) _ tk ([x] ++ dr) _ rfl rfl ho1 hO8 hb1 hxl3.out ?_; intro v2 wA ho2 hb2 hg2))
                exact ⟨⟨k + 1, _, by go_num, by omega, hfl.out, Own.lower ho2 hbb, bt_ hbb hb2, h1⟩, by simp [intOf]; omega⟩
            · obtain rfl : i = out.length := by omega
              have h1 := Lib.hid (hput.out out.length (Nat.le_refl _) ha.out (fun h => absurd h (Nat.lt_irrefl _)))
              clear hput hlt2 ha
              go_wp2
              go_quiet (fail)
              go_wp2
              rename_i nq _ _
              have hB9 : Below wr.heap.size wr (wr.drewN nq) := below_drewN (Below.refl _ _) nq
              have c3 := pw_cell_below hB9 c2
              replace hO := hO.below hB9
              replace hB := bt_ hB hB9
              generalize wr.drewN nq = wB at *
              clear hB9 c2 hD
              have hcap := rk_cap (Own.rk hO)
              have hcutA := fun W => cutA_i (A1) out.length n1 out.length hi hcap W
              have hcutB := fun W => cutB_i (A1) out.length n1 out.length hi W
              have hR := Lib.hid (ri_right (Own.rk hO) out.length hi)
              have hRl := Lib.hid (ri_left (Own.rk hO) out.length hi)
              generalize (if n1 = out.length then (A1) else (A1 : Option Addr).map (·.add (out.length * 1))) = A2 at *
              generalize hnn : out.length - out.length = nn at *
              generalize hcc : n1 - out.length = cc at *
              have hdl : Hid ((out.drop out.length).length = nn) := Lib.hid (by rw [List.length_drop]; exact hnn)
              have hxl : Hid ((([x] : List Int).length + (out.drop out.length).length) * 8 ≤ 140737488355328) := Lib.hid (by rw [hdl.out]; simp; omega)
              have hxl2 : Hid ((([] : List Int).length + (out.take out.length).length) * 8 ≤ 140737488355328) := Lib.hid (by rw [List.length_take]; simp; omega)
              have hxl3 : Hid (((out.take out.length).length + ([x] ++ out.drop out.length).length) * 8 ≤ 140737488355328) := Lib.hid (by rw [List.length_append, hdl.out, List.length_take]; simp; omega)
              have hfl : (out.take out.length ++ ([x] ++ out.drop out.length)).length ≤ k + 1 := by rw [List.length_append, List.length_append, List.length_take, List.length_drop]; simp; omega
              replace hfl := Lib.hid hfl
              generalize out.drop out.length = dr at *
              generalize out.take out.length = tk at *
              have hB0 := Below.refl wB.heap.size wB
              replace hB := Lib.hid hB
              replace hO := Lib.hid hO
              clear hnn hcc hcap
              go_region_held3 (fun w' => w'.cell? (ad.add k) = some (.int .i64 x))
                (go_keep)
                (first
                | (refine step_app_many (enc := Value.int .i64) (w0 := wB) (by rfl) (.tmp 50) (.tmp 53) 53 3 (.int .i64 0) 8 (by rfl) Try.underlying53 infoI (by rfl) (by decide) _ [x] dr _ (by rfl) (by rfl) (lit_ownI [x] #[.int .i64 x] rfl 1 rfl (by decide) (by first | exact Nat.le_refl _ | exact (below_drew (Below.refl _ _)).size)) (hR.out.below (by first | exact below_alloc (Below.refl _ _) _ | exact below_alloc (below_drew (Below.refl _ _)) _)) (by first | exact below_alloc (Below.refl _ _) _ | exact below_alloc (below_drew (Below.refl _ _)) _) hxl.out ?_; intro v8 w8 hO8 hB8 hg8; have c8 := pw_cell_below hB8 c3)
                | fail)
              have hL0 := lit_ownI (w0 := w8) (W := w8) [] #[] rfl 0 rfl (by decide) (Nat.le_refl _)
              have hb9 := below_alloc (Below.refl w8.heap.size w8) (.cells #[] 3)
              have hRl8 := (hRl.out.below hB8).below hb9
              have hbb := bt_ hB.out hB8
              clear hB8 hg8 hRl hB0 c3 c8
              go_wp2_with (first
                | (at_builtin; refine app_many (enc := Value.int .i64) rfl (.tmp 55) (.tmp 58) 53 3 (.int .i64 0) 8 rfl Try.underlying53 infoI rfl (by decide) _ [] tk _ rfl rfl hL0 hRl8 hb9 hxl2.out ?_; intro v1 w9 ho1 hb1 hg1; replace ho1 : Oi w8 w9 v1 tk := ho1; replace hO8 := Own.rk (hO8.below hb1))
                | (at_builtin; refine app_many (enc := Value.int .i64) rfl (.tmp 59) (.tmp 60) 53 3 (.int .i64 0) 8 rfl Try.underlying53 infoI rfl (by decide) _ tk ([x] ++ dr) _ rfl rfl ho1 hO8 hb1 hxl3.out ?_; intro v2 wA ho2 hb2 hg2))
              exact ⟨⟨k + 1, _, by go_num, by omega, hfl.out, Own.lower ho2 hbb, bt_ hbb hb2, h1⟩, by simp [intOf]; omega⟩
    · obtain rfl : k = l.length := by omega
      have h1 := hI.out
      rw [List.take_length] at h1
      replace h1 := Lib.hid h1
      have hR := Lib.hid (Own.rk hO)
      clear hI
      go_wp2
      go_ret
      exact ⟨_, _, rfl, hR.out, hB, h1.out⟩
end Go.Proofs.Ytacbenjfiabegaa
