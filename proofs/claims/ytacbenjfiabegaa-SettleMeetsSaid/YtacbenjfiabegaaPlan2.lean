/- Several texts of this seat, one behind the other. -/
import Derived.Test.YtacbenjfiabegaaK4
import Derived.Test.YtacbenjfiabegaaM5
/- The walks of package plan. -/
namespace Go.Proofs.Ytacbenjfiabegaa
set_option linter.unusedVariables false
open Go.RowKit Go.Proofs.YtacbenjfiabegaaW.PrintWords Go.Proofs.Sh

/-- A plan as a value. -/
abbrev planV (p : Pl) : Value := .agg #[.int .i64 p.N, .int .i64 p.T, .int .i64 p.L, .int .i64 p.W, .int .i64 p.S, .int .i64 p.R]
set_option maxHeartbeats 400000 in
theorem in_yes (n lo hi : Int) (h1 : lo ≤ n) (h2 : n ≤ hi) (w : World) :
   Calls Try.prog 88 #[.int .i64 n, .int .i64 lo, .int .i64 hi] w fun e w' => e = .returned (.bool true) ∧ w = w' := by
  go_enter Try.func88, Try.ntmps88
  go_wp2
  go_ret
  exact ⟨rfl, rfl⟩
set_option maxHeartbeats 400000 in
theorem in_no (n lo hi : Int) (h : n < lo ∨ hi < n) (w : World) :
   Calls Try.prog 88 #[.int .i64 n, .int .i64 lo, .int .i64 hi] w fun e w' => e = .returned (.bool false) ∧ w = w' := by
  by_cases h1 : n < lo
  · have t : decide (lo ≤ n) = false := decide_eq_false (by omega)
    clear h
    go_enter Try.func88, Try.ntmps88
    go_wp2
    go_ret
    exact ⟨rfl, rfl⟩
  · have h2 : lo ≤ n := by omega
    have h3 : decide (n ≤ hi) = false := decide_eq_false (by omega)
    clear h h1
    go_enter Try.func88, Try.ntmps88
    go_wp2
    go_ret
    exact ⟨rfl, rfl⟩

set_option maxRecDepth 100000 in
set_option maxHeartbeats 1600000 in
theorem right_yes (p : Pl) (h : p.Ok) (w : World) :
   Calls Try.prog 57 #[planV p] w fun e w' => e = .returned (.bool true) ∧ Below w.heap.size w w' := by
  obtain ⟨a, b, c, d, e', f, g, h, i⟩ := h
  go_enter Try.func57, Try.ntmps57
  go_wp2_with fail
  refine (in_yes _ _ _ (by omega) (by omega) _).mono ?_
  rintro e w_ ⟨rfl, rfl⟩
  go_wp2_with fail
  refine (in_yes _ _ _ (by omega) (by omega) _).mono ?_
  rintro e w_ ⟨rfl, rfl⟩
  go_wp2_with fail
  refine (in_yes _ _ _ (by omega) (by omega) _).mono ?_
  rintro e w_ ⟨rfl, rfl⟩
  go_wp2_with fail
  refine (in_yes _ _ _ (by omega) (by omega) _).mono ?_
  rintro e w_ ⟨rfl, rfl⟩
  go_wp2_with fail
  refine (in_yes _ _ _ (by omega) (by omega) _).mono ?_
  rintro e w_ ⟨rfl, rfl⟩
  go_wp2_with fail
  refine (in_yes _ _ _ (by omega) (by omega) _).mono ?_
  rintro e w_ ⟨rfl, rfl⟩
  go_wp2
  go_ret
  exact ⟨rfl, below_alloc (Below.refl _ _) _⟩
set_option maxRecDepth 100000 in
set_option maxHeartbeats 3200000 in
theorem right_no (p : Pl) (h : ¬ p.Ok) (w : World) :
   Calls Try.prog 57 #[planV p] w fun e w' => e = .returned (.bool false) ∧ Below w.heap.size w w' := by
  rw [Pl.ok_iff] at h
  have H := Lib.hid h
  clear h
  by_cases h1 : 1 ≤ p.T ∧ p.T ≤ 256
  · obtain ⟨h1, h1'⟩ := h1
    by_cases h2 : 1 ≤ p.L ∧ p.L ≤ 256
    · obtain ⟨h2, h2'⟩ := h2
      by_cases h3 : 1 ≤ p.W ∧ p.W ≤ 256
      · obtain ⟨h3, h3'⟩ := h3
        by_cases h4 : 1 ≤ p.N ∧ p.N ≤ 256
        · obtain ⟨h4, h4'⟩ := h4
          by_cases h5 : p.T + p.L ≤ p.W
          · by_cases h6 : p.W ≤ p.N
            · by_cases h7 : p.N + p.L ≤ 256
              · by_cases h8 : 1 ≤ p.S ∧ p.S ≤ 256
                · obtain ⟨h8, h8'⟩ := h8
                  have h9 : p.R < 1 ∨ 64 < p.R := by have := H.out; omega
                  have H9 := Lib.hid h9
                  clear h9
                  go_enter Try.func57, Try.ntmps57
                  go_wp2_with fail
                  refine (in_yes _ _ _ (by omega) (by omega) _).mono ?_
                  rintro e w_ ⟨rfl, rfl⟩
                  go_wp2_with fail
                  refine (in_yes _ _ _ (by omega) (by omega) _).mono ?_
                  rintro e w_ ⟨rfl, rfl⟩
                  go_wp2_with fail
                  refine (in_yes _ _ _ (by omega) (by omega) _).mono ?_
                  rintro e w_ ⟨rfl, rfl⟩
                  go_wp2_with fail
                  refine (in_yes _ _ _ (by omega) (by omega) _).mono ?_
                  rintro e w_ ⟨rfl, rfl⟩
                  go_wp2_with fail
                  refine (in_yes _ _ _ (by omega) (by omega) _).mono ?_
                  rintro e w_ ⟨rfl, rfl⟩
                  go_wp2_with fail
                  refine (in_no _ _ _ H9.out _).mono ?_
                  rintro e w_ ⟨rfl, rfl⟩
                  go_wp2
                  go_ret
                  exact ⟨rfl, below_alloc (Below.refl _ _) _⟩
                · have h9 : p.S < 1 ∨ 256 < p.S := by omega
                  have H9 := Lib.hid h9
                  clear h9 h8
                  go_enter Try.func57, Try.ntmps57
                  go_wp2_with fail
                  refine (in_yes _ _ _ (by omega) (by omega) _).mono ?_
                  rintro e w_ ⟨rfl, rfl⟩
                  go_wp2_with fail
                  refine (in_yes _ _ _ (by omega) (by omega) _).mono ?_
                  rintro e w_ ⟨rfl, rfl⟩
                  go_wp2_with fail
                  refine (in_yes _ _ _ (by omega) (by omega) _).mono ?_
                  rintro e w_ ⟨rfl, rfl⟩
                  go_wp2_with fail
                  refine (in_yes _ _ _ (by omega) (by omega) _).mono ?_
                  rintro e w_ ⟨rfl, rfl⟩
                  go_wp2_with fail
                  refine (in_no _ _ _ H9.out _).mono ?_
                  rintro e w_ ⟨rfl, rfl⟩
                  go_wp2
                  go_ret
                  exact ⟨rfl, below_alloc (Below.refl _ _) _⟩
              · have t : decide (p.N + p.L ≤ 256) = false := decide_eq_false h7
                clear h7
                go_enter Try.func57, Try.ntmps57
                go_wp2_with fail
                refine (in_yes _ _ _ (by omega) (by omega) _).mono ?_
                rintro e w_ ⟨rfl, rfl⟩
                go_wp2_with fail
                refine (in_yes _ _ _ (by omega) (by omega) _).mono ?_
                rintro e w_ ⟨rfl, rfl⟩
                go_wp2_with fail
                refine (in_yes _ _ _ (by omega) (by omega) _).mono ?_
                rintro e w_ ⟨rfl, rfl⟩
                go_wp2_with fail
                refine (in_yes _ _ _ (by omega) (by omega) _).mono ?_
                rintro e w_ ⟨rfl, rfl⟩
                go_wp2
                go_ret
                exact ⟨rfl, below_alloc (Below.refl _ _) _⟩
            · have t : decide (p.W ≤ p.N) = false := decide_eq_false h6
              clear h6
              go_enter Try.func57, Try.ntmps57
              go_wp2_with fail
              refine (in_yes _ _ _ (by omega) (by omega) _).mono ?_
              rintro e w_ ⟨rfl, rfl⟩
              go_wp2_with fail
              refine (in_yes _ _ _ (by omega) (by omega) _).mono ?_
              rintro e w_ ⟨rfl, rfl⟩
              go_wp2_with fail
              refine (in_yes _ _ _ (by omega) (by omega) _).mono ?_
              rintro e w_ ⟨rfl, rfl⟩
              go_wp2_with fail
              refine (in_yes _ _ _ (by omega) (by omega) _).mono ?_
              rintro e w_ ⟨rfl, rfl⟩
              go_wp2
              go_ret
              exact ⟨rfl, below_alloc (Below.refl _ _) _⟩
          · have t : decide (p.T + p.L ≤ p.W) = false := decide_eq_false h5
            clear h5
            go_enter Try.func57, Try.ntmps57
            go_wp2_with fail
            refine (in_yes _ _ _ (by omega) (by omega) _).mono ?_
            rintro e w_ ⟨rfl, rfl⟩
            go_wp2_with fail
            refine (in_yes _ _ _ (by omega) (by omega) _).mono ?_
            rintro e w_ ⟨rfl, rfl⟩
            go_wp2_with fail
            refine (in_yes _ _ _ (by omega) (by omega) _).mono ?_
            rintro e w_ ⟨rfl, rfl⟩
            go_wp2_with fail
            refine (in_yes _ _ _ (by omega) (by omega) _).mono ?_
            rintro e w_ ⟨rfl, rfl⟩
            go_wp2
            go_ret
            exact ⟨rfl, below_alloc (Below.refl _ _) _⟩
        · have h9 : p.N < 1 ∨ 256 < p.N := by omega
          have H9 := Lib.hid h9
          clear h9 h4
          go_enter Try.func57, Try.ntmps57
          go_wp2_with fail
          refine (in_yes _ _ _ (by omega) (by omega) _).mono ?_
          rintro e w_ ⟨rfl, rfl⟩
          go_wp2_with fail
          refine (in_yes _ _ _ (by omega) (by omega) _).mono ?_
          rintro e w_ ⟨rfl, rfl⟩
          go_wp2_with fail
          refine (in_yes _ _ _ (by omega) (by omega) _).mono ?_
          rintro e w_ ⟨rfl, rfl⟩
          go_wp2_with fail
          refine (in_no _ _ _ H9.out _).mono ?_
          rintro e w_ ⟨rfl, rfl⟩
          go_wp2
          go_ret
          exact ⟨rfl, below_alloc (Below.refl _ _) _⟩
      · have h9 : p.W < 1 ∨ 256 < p.W := by omega
        have H9 := Lib.hid h9
        clear h9 h3
        go_enter Try.func57, Try.ntmps57
        go_wp2_with fail
        refine (in_yes _ _ _ (by omega) (by omega) _).mono ?_
        rintro e w_ ⟨rfl, rfl⟩
        go_wp2_with fail
        refine (in_yes _ _ _ (by omega) (by omega) _).mono ?_
        rintro e w_ ⟨rfl, rfl⟩
        go_wp2_with fail
        refine (in_no _ _ _ H9.out _).mono ?_
        rintro e w_ ⟨rfl, rfl⟩
        go_wp2
        go_ret
        exact ⟨rfl, below_alloc (Below.refl _ _) _⟩
    · have h9 : p.L < 1 ∨ 256 < p.L := by omega
      have H9 := Lib.hid h9
      clear h9 h2
      go_enter Try.func57, Try.ntmps57
      go_wp2_with fail
      refine (in_yes _ _ _ (by omega) (by omega) _).mono ?_
      rintro e w_ ⟨rfl, rfl⟩
      go_wp2_with fail
      refine (in_no _ _ _ H9.out _).mono ?_
      rintro e w_ ⟨rfl, rfl⟩
      go_wp2
      go_ret
      exact ⟨rfl, below_alloc (Below.refl _ _) _⟩
  · have h9 : p.T < 1 ∨ 256 < p.T := by omega
    have H9 := Lib.hid h9
    clear h9 h1
    go_enter Try.func57, Try.ntmps57
    go_wp2_with fail
    refine (in_no _ _ _ H9.out _).mono ?_
    rintro e w_ ⟨rfl, rfl⟩
    go_wp2
    go_ret
    exact ⟨rfl, below_alloc (Below.refl _ _) _⟩

/-! ### what is asked of a plan that may be -/
set_option maxRecDepth 100000 in
set_option maxHeartbeats 1600000 in
theorem ofAll (p : Pl) (h : p.Ok) (c0 : Value) (w : World) (Q : Value → World → Prop)
   (hask : ∀ w1, Below w.heap.size w w1 → Calls Try.prog 102 #[c0] w1 fun e w' => ∃ v, e = .returned v ∧ Q v w') :
   Calls Try.prog 101 #[planV p, .func (.func 102) #[] #[c0]] w fun e w' => ∃ v, e = .returned v ∧ Q v w' := by
  have HA := Lib.hid hask
  clear hask
  go_enter Try.func101, Try.ntmps101
  go_wp2_with fail
  refine (right_yes p h _).mono ?_
  rintro e w1 ⟨rfl, hb⟩
  go_wp2_with fail
  refine (HA.out w1 (bt_ (below_alloc (Below.refl _ _) _) hb)).mono ?_
  rintro e w2 ⟨v, rfl, hq⟩
  go_wp2
  go_ret
  exact ⟨v, rfl, hq⟩
set_option maxRecDepth 100000 in
set_option maxHeartbeats 1600000 in
theorem ofNeed (p : Pl) (h : p.Ok) (c0 : Value) (w : World) (Q : Value → World → Prop)
   (hask : ∀ w1, Below w.heap.size w w1 → Calls Try.prog 98 #[c0] w1 fun e w' => ∃ v, e = .returned v ∧ Q v w') :
   Calls Try.prog 90 #[planV p, .func (.func 98) #[] #[c0]] w fun e w' => ∃ v, e = .returned v ∧ Q v w' := by
  have HA := Lib.hid hask
  clear hask
  go_enter Try.func90, Try.ntmps90
  go_wp2_with fail
  refine (right_yes p h _).mono ?_
  rintro e w1 ⟨rfl, hb⟩
  go_wp2_with fail
  refine (HA.out w1 (bt_ (below_alloc (Below.refl _ _) _) hb)).mono ?_
  rintro e w2 ⟨v, rfl, hq⟩
  go_wp2
  go_ret
  exact ⟨v, rfl, hq⟩
set_option maxRecDepth 100000 in
set_option maxHeartbeats 1600000 in
theorem ofQuorum (p : Pl) (h : p.Ok) (c0 : Value) (w : World) (Q : Value → World → Prop)
   (hask : ∀ w1, Below w.heap.size w w1 → Calls Try.prog 91 #[c0] w1 fun e w' => ∃ v, e = .returned v ∧ Q v w') :
   Calls Try.prog 90 #[planV p, .func (.func 91) #[] #[c0]] w fun e w' => ∃ v, e = .returned v ∧ Q v w' := by
  have HA := Lib.hid hask
  clear hask
  go_enter Try.func90, Try.ntmps90
  go_wp2_with fail
  refine (right_yes p h _).mono ?_
  rintro e w1 ⟨rfl, hb⟩
  go_wp2_with fail
  refine (HA.out w1 (bt_ (below_alloc (Below.refl _ _) _) hb)).mono ?_
  rintro e w2 ⟨v, rfl, hq⟩
  go_wp2
  go_ret
  exact ⟨v, rfl, hq⟩
set_option maxRecDepth 100000 in
set_option maxHeartbeats 1600000 in
theorem ofDealers (p : Pl) (h : p.Ok) (c0 : Value) (w : World) (Q : Value → World → Prop)
   (hask : ∀ w1, Below w.heap.size w w1 → Calls Try.prog 97 #[c0] w1 fun e w' => ∃ v, e = .returned v ∧ Q v w') :
   Calls Try.prog 90 #[planV p, .func (.func 97) #[] #[c0]] w fun e w' => ∃ v, e = .returned v ∧ Q v w' := by
  have HA := Lib.hid hask
  clear hask
  go_enter Try.func90, Try.ntmps90
  go_wp2_with fail
  refine (right_yes p h _).mono ?_
  rintro e w1 ⟨rfl, hb⟩
  go_wp2_with fail
  refine (HA.out w1 (bt_ (below_alloc (Below.refl _ _) _) hb)).mono ?_
  rintro e w2 ⟨v, rfl, hq⟩
  go_wp2
  go_ret
  exact ⟨v, rfl, hq⟩
set_option maxRecDepth 100000 in
set_option maxHeartbeats 1600000 in
theorem ofInts_no (p : Pl) (h : ¬ p.Ok) (f : Value) (w : World) :
   Calls Try.prog 101 #[planV p, f] w fun e w' => e = .returned (.slice none 0 0) ∧ Below w.heap.size w w' := by
  go_enter Try.func101, Try.ntmps101
  go_wp2_with fail
  refine (right_no p h _).mono ?_
  rintro e w1 ⟨rfl, hb⟩
  go_wp2
  go_ret
  exact ⟨rfl, bt_ (below_alloc (Below.refl _ _) _) hb⟩
set_option maxRecDepth 100000 in
set_option maxHeartbeats 1600000 in
theorem ofInt_no (p : Pl) (h : ¬ p.Ok) (f : Value) (w : World) :
   Calls Try.prog 90 #[planV p, f] w fun e w' => e = .returned (.int .i64 0) ∧ Below w.heap.size w w' := by
  go_enter Try.func90, Try.ntmps90
  go_wp2_with fail
  refine (right_no p h _).mono ?_
  rintro e w1 ⟨rfl, hb⟩
  go_wp2
  go_ret
  exact ⟨rfl, bt_ (below_alloc (Below.refl _ _) _) hb⟩

/-! ### a plan in memory -/
/-- The plan p lies in block b. -/
structure IsPlan (w : World) (b : Nat) (p : Pl) : Prop where
  n : w.cell? ⟨b, 0, none⟩ = some (.int .i64 p.N)
  t : w.cell? ⟨b, 1, none⟩ = some (.int .i64 p.T)
  l : w.cell? ⟨b, 2, none⟩ = some (.int .i64 p.L)
  w' : w.cell? ⟨b, 3, none⟩ = some (.int .i64 p.W)
  s : w.cell? ⟨b, 4, none⟩ = some (.int .i64 p.S)
  r : w.cell? ⟨b, 5, none⟩ = some (.int .i64 p.R)
theorem IsPlan.below {w w1 : World} {b : Nat} {p : Pl} (h : IsPlan w b p) (hb : Below w.heap.size w w1) : IsPlan w1 b p :=
  ⟨pw_cell_below hb h.n, pw_cell_below hb h.t, pw_cell_below hb h.l, pw_cell_below hb h.w', pw_cell_below hb h.s, pw_cell_below hb h.r⟩
/-- The cells of a plan. -/
abbrev planC (p : Pl) : Array Value := #[.int .i64 p.N, .int .i64 p.T, .int .i64 p.L, .int .i64 p.W, .int .i64 p.S, .int .i64 p.R]
theorem isPlan_blk {w : World} {b : Nat} {p : Pl} {t : TypeId} (h : Blk w b (planC p) t) : IsPlan w b p := ⟨h.cell 0 _ rfl, h.cell 1 _ rfl, h.cell 2 _ rfl, h.cell 3 _ rfl, h.cell 4 _ rfl, h.cell 5 _ rfl⟩
theorem isPlan_alloc (w : World) (p : Pl) (t : TypeId) : IsPlan (w.alloc (.cells (planC p) t)) w.heap.size p := by
  refine ⟨?_, ?_, ?_, ?_, ?_, ?_⟩ <;> rw [World.cell?_alloc_new] <;> rfl
theorem range_snoc {β : Type} (f : Nat → β) (k : Nat) : (List.range (k + 1)).map f = (List.range k).map f ++ [f k] := by rw [List.range_succ, List.map_append]; rfl

/-! ### All, Secrets -/
set_option maxRecDepth 100000 in
set_option maxHeartbeats 1600000 in
theorem allClos (p : Pl) (h : p.Ok) (b : Nat) (w : World) (hp : IsPlan w b p) :
   Calls Try.prog 102 #[.pointer (some ⟨b, 0, none⟩)] w fun e w' => ∃ v, e = .returned v ∧ (Oi w w' v (allOf p) ∧ Below w.heap.size w w') := by
  have hn : p.N = ((p.N.toNat : Nat) : Int) := by have := h.l; have := h.t; have := h.wn; have := h.tl; omega
  have hn2 : p.N.toNat ≤ 256 := by have := h.l; have := h.nl; omega
  have c0 := hp.n
  rw [hn] at c0
  have hA : Hid (allOf p = (List.range p.N.toNat).map fun i => ((i + 1 : Nat) : Int)) := Lib.hid rfl
  generalize p.N.toNat = n at *
  clear hn hp h
  go_enter Try.func102, Try.ntmps102
  go_wp2
  go_loopw [2, 6] (fun v i wr => ∃ k : Nat, k ≤ n ∧ i = .int .i64 k ∧ Oi w wr v ((List.range k).map fun i => ((i + 1 : Nat) : Int)) ∧ Below w.heap.size w wr) (fun _ i _ => n - (intOf i).toNat)
  case atStart => exact ⟨0, by omega, rfl, Own.nil _ _ _ _, Below.refl _ _⟩
  case round =>
    obtain ⟨k, hk, rfl, hO, hB⟩ := hrel
    by_cases hlt : k < n
    · have hs := range_snoc (fun i => ((i + 1 : Nat) : Int)) k
      have HS := Lib.hid hs
      clear hs
      go_wp2_with (at_builtin; refine app_one (enc := Value.int .i64) rfl (.tmp 9) (.tmp 12) 53 3 (.int .i64 0) 8 rfl Try.underlying53 infoI rfl (by decide) _ _ ((k + 1 : Nat) : Int) rfl rfl _ (iV_eq ?hc) hO hB ?hl ?_; (case hc => (first | rfl | omega | (simp; done) | (simp; omega))); (case hl => (first | (simp; omega) | omega)); intro v1 w1 ho hb hg)
      exact ⟨⟨k + 1, by omega, by go_num, by rw [HS.out]; exact ho, hb⟩, by simp [intOf]; omega⟩
    · obtain rfl : k = n := by omega
      go_wp2
      go_ret
      exact ⟨_, rfl, by rw [hA.out]; exact hO, hB⟩
set_option maxRecDepth 100000 in
set_option maxHeartbeats 1600000 in
theorem all_yes (p : Pl) (h : p.Ok) (w : World) :
   Calls Try.prog 83 #[planV p] w fun e w' => ∃ v, e = .returned v ∧ (Oi w w' v (allOf p) ∧ Below w.heap.size w w') := by
  go_enter Try.func83, Try.ntmps83
  go_wp2_with fail
  refine (ofAll p h _ _ (fun v w' => Oi w w' v (allOf p) ∧ Below w.heap.size w w') (fun w1 hb => ?_)).mono ?_
  · have hb' := bt_ (below_alloc (Below.refl _ _) _) hb
    exact (allClos p h _ w1 ((isPlan_alloc _ _ _).below hb)).mono fun e w' ⟨v, he, ho, hB⟩ => ⟨v, he, ho.lower hb', bt_ hb' hB⟩
  rintro e w1 ⟨v, rfl, ho, hB⟩
  go_wp2
  go_ret
  first | exact ⟨v, rfl, ho, hB⟩ | exact ⟨_, rfl, rfl, hB⟩
set_option maxRecDepth 100000 in
set_option maxHeartbeats 1600000 in
theorem all_no (p : Pl) (h : ¬ p.Ok) (w : World) :
   Calls Try.prog 83 #[planV p] w fun e w' => e = .returned (.slice none 0 0) ∧ Below w.heap.size w w' := by
  go_enter Try.func83, Try.ntmps83
  go_wp2_with fail
  refine (ofInts_no p h _ _).mono ?_
  rintro e w1 ⟨rfl, hb⟩
  go_wp2
  go_ret
  exact ⟨rfl, bt_ (below_alloc (Below.refl _ _) _) hb⟩
set_option maxRecDepth 100000 in
set_option maxHeartbeats 1600000 in
theorem needClos (p : Pl) (h : p.Ok) (b : Nat) (w : World) (hp : IsPlan w b p) :
   Calls Try.prog 98 #[.pointer (some ⟨b, 0, none⟩)] w fun e w' => ∃ v, e = .returned v ∧ (v = .int .i64 (p.T + p.L) ∧ Below w.heap.size w w') := by
  obtain ⟨c1, c2, c3, c4, c5, c6⟩ := hp
  obtain ⟨a1, a2, a3, a4, a5, a6, a7, a8, a9⟩ := h
  go_enter Try.func98, Try.ntmps98
  go_wp2
  go_ret
  exact ⟨_, rfl, rfl, Below.refl _ _⟩
set_option maxRecDepth 100000 in
set_option maxHeartbeats 1600000 in
theorem quorumClos (p : Pl) (h : p.Ok) (b : Nat) (w : World) (hp : IsPlan w b p) :
   Calls Try.prog 91 #[.pointer (some ⟨b, 0, none⟩)] w fun e w' => ∃ v, e = .returned v ∧ (v = .int .i64 (p.N - p.W + 1) ∧ Below w.heap.size w w') := by
  obtain ⟨c1, c2, c3, c4, c5, c6⟩ := hp
  obtain ⟨a1, a2, a3, a4, a5, a6, a7, a8, a9⟩ := h
  go_enter Try.func91, Try.ntmps91
  go_wp2
  go_ret
  exact ⟨_, rfl, rfl, Below.refl _ _⟩
set_option maxRecDepth 100000 in
set_option maxHeartbeats 1600000 in
theorem dealersClos (p : Pl) (h : p.Ok) (b : Nat) (w : World) (hp : IsPlan w b p) :
   Calls Try.prog 97 #[.pointer (some ⟨b, 0, none⟩)] w fun e w' => ∃ v, e = .returned v ∧ (v = .int .i64 (p.T + 1) ∧ Below w.heap.size w w') := by
  obtain ⟨c1, c2, c3, c4, c5, c6⟩ := hp
  obtain ⟨a1, a2, a3, a4, a5, a6, a7, a8, a9⟩ := h
  go_enter Try.func97, Try.ntmps97
  go_wp2
  go_ret
  exact ⟨_, rfl, rfl, Below.refl _ _⟩
set_option maxRecDepth 100000 in
set_option maxHeartbeats 1600000 in
theorem needX_yes (p : Pl) (h : p.Ok) (w : World) :
   Calls Try.prog 77 #[planV p] w fun e w' => ∃ v, e = .returned v ∧ (v = .int .i64 (p.T + p.L) ∧ Below w.heap.size w w') := by
  go_enter Try.func77, Try.ntmps77
  go_wp2_with fail
  refine (ofNeed p h _ _ (fun v w' => v = .int .i64 (p.T + p.L) ∧ Below w.heap.size w w') (fun w1 hb => ?_)).mono ?_
  · have hb' := bt_ (below_alloc (Below.refl _ _) _) hb
    exact (needClos p h _ w1 ((isPlan_alloc _ _ _).below hb)).mono fun e w' ⟨v, he, ho, hB⟩ => ⟨v, he, ho, bt_ hb' hB⟩
  rintro e w1 ⟨v, rfl, ho, hB⟩
  go_wp2
  go_ret
  first | exact ⟨v, rfl, ho, hB⟩ | exact ⟨_, rfl, rfl, hB⟩
set_option maxRecDepth 100000 in
set_option maxHeartbeats 1600000 in
theorem quorumX_yes (p : Pl) (h : p.Ok) (w : World) :
   Calls Try.prog 62 #[planV p] w fun e w' => ∃ v, e = .returned v ∧ (v = .int .i64 (p.N - p.W + 1) ∧ Below w.heap.size w w') := by
  go_enter Try.func62, Try.ntmps62
  go_wp2_with fail
  refine (ofQuorum p h _ _ (fun v w' => v = .int .i64 (p.N - p.W + 1) ∧ Below w.heap.size w w') (fun w1 hb => ?_)).mono ?_
  · have hb' := bt_ (below_alloc (Below.refl _ _) _) hb
    exact (quorumClos p h _ w1 ((isPlan_alloc _ _ _).below hb)).mono fun e w' ⟨v, he, ho, hB⟩ => ⟨v, he, ho, bt_ hb' hB⟩
  rintro e w1 ⟨v, rfl, ho, hB⟩
  go_wp2
  go_ret
  first | exact ⟨v, rfl, ho, hB⟩ | exact ⟨_, rfl, rfl, hB⟩
set_option maxRecDepth 100000 in
set_option maxHeartbeats 1600000 in
theorem dealersX_yes (p : Pl) (h : p.Ok) (w : World) :
   Calls Try.prog 75 #[planV p] w fun e w' => ∃ v, e = .returned v ∧ (v = .int .i64 (p.T + 1) ∧ Below w.heap.size w w') := by
  go_enter Try.func75, Try.ntmps75
  go_wp2_with fail
  refine (ofDealers p h _ _ (fun v w' => v = .int .i64 (p.T + 1) ∧ Below w.heap.size w w') (fun w1 hb => ?_)).mono ?_
  · have hb' := bt_ (below_alloc (Below.refl _ _) _) hb
    exact (dealersClos p h _ w1 ((isPlan_alloc _ _ _).below hb)).mono fun e w' ⟨v, he, ho, hB⟩ => ⟨v, he, ho, bt_ hb' hB⟩
  rintro e w1 ⟨v, rfl, ho, hB⟩
  go_wp2
  go_ret
  first | exact ⟨v, rfl, ho, hB⟩ | exact ⟨_, rfl, rfl, hB⟩
set_option maxRecDepth 100000 in
set_option maxHeartbeats 1600000 in
theorem need_no (p : Pl) (h : ¬ p.Ok) (w : World) :
   Calls Try.prog 77 #[planV p] w fun e w' => e = .returned (.int .i64 0) ∧ Below w.heap.size w w' := by
  go_enter Try.func77, Try.ntmps77
  go_wp2_with fail
  refine (ofInt_no p h _ _).mono ?_
  rintro e w1 ⟨rfl, hb⟩
  go_wp2
  go_ret
  exact ⟨rfl, bt_ (below_alloc (Below.refl _ _) _) hb⟩
set_option maxRecDepth 100000 in
set_option maxHeartbeats 1600000 in
theorem quorum_no (p : Pl) (h : ¬ p.Ok) (w : World) :
   Calls Try.prog 62 #[planV p] w fun e w' => e = .returned (.int .i64 0) ∧ Below w.heap.size w w' := by
  go_enter Try.func62, Try.ntmps62
  go_wp2_with fail
  refine (ofInt_no p h _ _).mono ?_
  rintro e w1 ⟨rfl, hb⟩
  go_wp2
  go_ret
  exact ⟨rfl, bt_ (below_alloc (Below.refl _ _) _) hb⟩
set_option maxRecDepth 100000 in
set_option maxHeartbeats 1600000 in
theorem dealers_no (p : Pl) (h : ¬ p.Ok) (w : World) :
   Calls Try.prog 75 #[planV p] w fun e w' => e = .returned (.int .i64 0) ∧ Below w.heap.size w w' := by
  go_enter Try.func75, Try.ntmps75
  go_wp2_with fail
  refine (ofInt_no p h _ _).mono ?_
  rintro e w1 ⟨rfl, hb⟩
  go_wp2
  go_ret
  exact ⟨rfl, bt_ (below_alloc (Below.refl _ _) _) hb⟩
theorem need_yes (p : Pl) (h : p.Ok) (w : World) : Calls Try.prog 77 #[planV p] w fun e w' => e = .returned (.int .i64 (p.T + p.L)) ∧ Below w.heap.size w w' :=
  (needX_yes p h w).mono fun e w' ⟨v, he, hv, hB⟩ => ⟨hv ▸ he, hB⟩
theorem quorum_yes (p : Pl) (h : p.Ok) (w : World) : Calls Try.prog 62 #[planV p] w fun e w' => e = .returned (.int .i64 (p.N - p.W + 1)) ∧ Below w.heap.size w w' :=
  (quorumX_yes p h w).mono fun e w' ⟨v, he, hv, hB⟩ => ⟨hv ▸ he, hB⟩
theorem dealers_yes (p : Pl) (h : p.Ok) (w : World) : Calls Try.prog 75 #[planV p] w fun e w' => e = .returned (.int .i64 (p.T + 1)) ∧ Below w.heap.size w w' :=
  (dealersX_yes p h w).mono fun e w' ⟨v, he, hv, hB⟩ => ⟨hv ▸ he, hB⟩

/-! ### Point, Points, Is, Stripes -/
end Go.Proofs.Ytacbenjfiabegaa

/- The walks of package plan, the rest: points, stripes, who is a custodian. -/
namespace Go.Proofs.Ytacbenjfiabegaa
set_option linter.unusedVariables false
open Go.RowKit Go.Proofs.YtacbenjfiabegaaW.PrintWords Go.Proofs.Sh
theorem ki_at {w : World} {k : IntKind} {A : Option Addr} {n : Nat} {l : List Int} (h : (Kd.int k).C w A n l) (j : Nat) (hj : j < n) : ∃ ad, A = some ad ∧ w.cell? (ad.add j) = some (.int k (l.getD j 0)) := by
  obtain ⟨ad, e, hc⟩ := Kd.at_int h (j : Int) (by omega) (by omega)
  rw [Int.toNat_natCast] at hc
  exact ⟨ad, e, hc⟩
theorem take_snoc {α : Type} (l : List α) (k : Nat) (z : α) (h : k < l.length) : l.take (k + 1) = l.take k ++ [l.getD k z] := by
  rw [List.take_succ_eq_append_getElem h]
  simp [List.getD_eq_getElem?_getD, h]
set_option maxRecDepth 100000 in
set_option maxHeartbeats 1600000 in
theorem is_no (p : Pl) (h : ¬ p.Ok) (i : Int) (w : World) :
   Calls Try.prog 76 #[planV p, .int .i64 i] w fun e w' => e = .returned (.bool false) ∧ Below w.heap.size w w' := by
  go_enter Try.func76, Try.ntmps76
  go_wp2_with fail
  refine (right_no p h _).mono ?_
  rintro e w1 ⟨rfl, hb⟩
  go_wp2
  go_ret
  exact ⟨rfl, bt_ (below_alloc (Below.refl _ _) _) hb⟩
set_option maxRecDepth 100000 in
set_option maxHeartbeats 1600000 in
theorem is_yes (p : Pl) (h : p.Ok) (i : Int) (w : World) :
   Calls Try.prog 76 #[planV p, .int .i64 i] w fun e w' => e = .returned (.bool (decide (1 ≤ i ∧ i ≤ p.N))) ∧ Below w.heap.size w w' := by
  have c0 := (isPlan_alloc w p 48).n
  by_cases hi : 1 ≤ i ∧ i ≤ p.N
  · have hd := Lib.hid (decide_eq_true hi)
    obtain ⟨h1, h2⟩ := hi
    go_enter Try.func76, Try.ntmps76
    go_wp2_with fail
    refine (right_yes p h _).mono ?_
    rintro e w1 ⟨rfl, hb⟩
    have c0 := pw_cell_below hb c0
    go_wp2_with fail
    refine (in_yes _ _ _ h1 h2 _).mono ?_
    rintro e w_ ⟨rfl, rfl⟩
    go_wp2
    go_ret
    rw [hd.out]
    exact ⟨rfl, bt_ (below_alloc (Below.refl _ _) _) hb⟩
  · have hd := Lib.hid (decide_eq_false hi)
    have H9 : Hid (i < 1 ∨ p.N < i) := Lib.hid (by omega)
    clear hi
    go_enter Try.func76, Try.ntmps76
    go_wp2_with fail
    refine (right_yes p h _).mono ?_
    rintro e w1 ⟨rfl, hb⟩
    have c0 := pw_cell_below hb c0
    go_wp2_with fail
    refine (in_no _ _ _ H9.out _).mono ?_
    rintro e w_ ⟨rfl, rfl⟩
    go_wp2
    go_ret
    rw [hd.out]
    exact ⟨rfl, bt_ (below_alloc (Below.refl _ _) _) hb⟩
end Go.Proofs.Ytacbenjfiabegaa
