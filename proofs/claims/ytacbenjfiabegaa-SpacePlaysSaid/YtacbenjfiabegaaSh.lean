/- The walks of space: Free, Longest, some. -/
import Derived.Test.YtacbenjfiabegaaSg
namespace Go.Proofs.Ytacbenjfiabegaa
set_option linter.unusedVariables false
set_option linter.unusedSimpArgs false
open Go.RowKit Go.Proofs.YtacbenjfiabegaaW.PrintWords Go.Proofs.Sh

theorem sum_snoc (H : List (Int × Int)) (k : Nat) (h : k < H.length) : sumR (H.take (k + 1)) = sumR (H.take k) + (H.getD k dp).2 := by
  rw [take_snoc' H k dp h, sumR_app]
  simp [sumR]
theorem max_snoc (H : List (Int × Int)) (k : Nat) (h : k < H.length) (h2 : 0 ≤ (H.getD k dp).2) : maxR (H.take (k + 1)) = max (maxR (H.take k)) (H.getD k dp).2 := by
  rw [take_snoc' H k dp h, maxR_app _ _ (by simpa using h2)]
  simp only [maxR]
  omega
theorem sum_bnd (H : List (Int × Int)) (h : ∀ r ∈ H, 0 ≤ r.2 ∧ r.2 ≤ 1000) : ∀ k, k ≤ H.length → 0 ≤ sumR (H.take k) ∧ sumR (H.take k) ≤ k * 1000
  | 0, _ => by simp [sumR]
  | k + 1, hk => by
    have ih := sum_bnd H h k (by omega)
    rw [sum_snoc H k (by omega)]
    have := h (H.getD k dp) (by rw [List.getD_eq_getElem?_getD, List.getElem?_eq_getElem (by omega)]; exact List.getElem_mem _)
    omega
theorem heap_bnd {l : List Bool} {H : List (Int × Int)} (h : HeapR H (runsL l)) (hl : l.length ≤ 1000) : (∀ r ∈ H, 0 ≤ r.2 ∧ r.2 ≤ 1000) ∧ H.length ≤ 1001 := by
  refine ⟨fun r hr => ?_, ?_⟩
  · obtain ⟨q1, q2, q3, _⟩ := runs_mem (h.2.mem_iff.1 hr)
    omega
  · rw [h.2.length_eq]
    have := runs_len l
    omega
set_option maxRecDepth 100000 in
set_option maxHeartbeats 1600000 in
theorem free_c (p : Value) (l : List Bool) (w : World) (h : Rs w p l) (hl : l.length ≤ 1000) :
   Calls Try.prog 34 #[p] w fun e w' => e = .returned (.int .i64 (sumR (runsL l))) ∧ Below w.heap.size w w' := by
  go_enter Try.func34, Try.ntmps34
  go_wp2_with fail
  refine (heap_c p l w h (by omega)).mono ?_
  rintro e w1 ⟨b, v, H, rfl, hN, hB, hH⟩
  obtain ⟨hb, hHl⟩ := heap_bnd hH hl
  have hres := Lib.hid (sumR_perm hH.2)
  obtain ⟨A, c, rfl⟩ := rk_form (Own.rk hN.own)
  have c0 := hN.box.one
  replace hH := Lib.hid hH
  go_wp2_with fail
  go_loopw [3, 11] (fun s i wr => ∃ k : Nat, k ≤ H.length ∧ i = .int .i64 k ∧ s = .int .i64 (sumR (H.take k)) ∧ Below w1.heap.size w1 wr) (fun _ i _ => H.length - (intOf i).toNat)
  case atStart => exact ⟨0, by omega, rfl, rfl, Below.refl _ _⟩
  case round =>
    obtain ⟨k, hk, rfl, rfl, hB1⟩ := hrel
    by_cases hlt : k < H.length
    · have hO := Own.below hN.own hB1
      obtain ⟨g, c', e, _, _⟩ := Op.form hO (by omega)
      injection e with e1 e2 e3
      subst e1 e3
      obtain ⟨d1, d2, _⟩ := Op.at hO k hlt
      have hbk := hb (H.getD k dp) (by rw [List.getD_eq_getElem?_getD, List.getElem?_eq_getElem hlt]; exact List.getElem_mem _)
      have hbs := sum_bnd H hb k hk; have hsn := sum_snoc H k hlt; have t1 : IntKind.i64.wrap (sumR (H.take k) + (H.getD k dp).2) = sumR (H.take k) + (H.getD k dp).2 := wrapI _ (by omega) (by omega)
      generalize H.getD k dp = y at *
      obtain ⟨y1, y2⟩ := y
      simp only at hbk hsn t1
      have hsn := Lib.hid hsn
      have hBy := below_alloc (Below.refl wr.heap.size wr) (.cells #[.int .i64 y1, .int .i64 y2] 108)
      replace hBy := bt_ hB1 hBy
      have ha1 := (Blk.new wr #[.int .i64 y1, .int .i64 y2] 108).cell 1 (.int .i64 y2) rfl
      generalize sumR (H.take k) = S at *
      clear hO hb
      go_wp2
      refine ⟨⟨k + 1, by omega, by go_num, ?_, hBy⟩, by simp [intOf]; omega⟩
      rw [hsn.out]
      try (congr 1; split <;> omega)
    · obtain rfl : k = H.length := by omega
      rw [List.take_length]
      have hBf := bt_ hB hB1
      clear hB1 hb
      go_wp2
      go_ret
      rw [← hres.out]
      exact ⟨rfl, hBf⟩
set_option maxRecDepth 100000 in
set_option maxHeartbeats 1600000 in
theorem longest_c (p : Value) (l : List Bool) (w : World) (h : Rs w p l) (hl : l.length ≤ 1000) :
   Calls Try.prog 36 #[p] w fun e w' => e = .returned (.int .i64 (maxR (runsL l))) ∧ Below w.heap.size w w' := by
  go_enter Try.func36, Try.ntmps36
  go_wp2_with fail
  refine (heap_c p l w h (by omega)).mono ?_
  rintro e w1 ⟨b, v, H, rfl, hN, hB, hH⟩
  obtain ⟨hb, hHl⟩ := heap_bnd hH hl
  have hres := Lib.hid (maxR_perm hH.2)
  obtain ⟨A, c, rfl⟩ := rk_form (Own.rk hN.own)
  have c0 := hN.box.one
  replace hH := Lib.hid hH
  go_wp2_with fail
  go_loopw [3, 11] (fun s i wr => ∃ k : Nat, k ≤ H.length ∧ i = .int .i64 k ∧ s = .int .i64 (maxR (H.take k)) ∧ Below w1.heap.size w1 wr) (fun _ i _ => H.length - (intOf i).toNat)
  case atStart => exact ⟨0, by omega, rfl, rfl, Below.refl _ _⟩
  case round =>
    obtain ⟨k, hk, rfl, rfl, hB1⟩ := hrel
    by_cases hlt : k < H.length
    · have hO := Own.below hN.own hB1
      obtain ⟨g, c', e, _, _⟩ := Op.form hO (by omega)
      injection e with e1 e2 e3
      subst e1 e3
      obtain ⟨d1, d2, _⟩ := Op.at hO k hlt
      have hbk := hb (H.getD k dp) (by rw [List.getD_eq_getElem?_getD, List.getElem?_eq_getElem hlt]; exact List.getElem_mem _)
      have hsn := max_snoc H k hlt hbk.1; have t1 : True := trivial
      generalize H.getD k dp = y at *
      obtain ⟨y1, y2⟩ := y
      simp only at hbk hsn t1
      have hsn := Lib.hid hsn
      have hBy := below_alloc (Below.refl wr.heap.size wr) (.cells #[.int .i64 y1, .int .i64 y2] 108)
      replace hBy := bt_ hB1 hBy
      have ha1 := (Blk.new wr #[.int .i64 y1, .int .i64 y2] 108).cell 1 (.int .i64 y2) rfl
      generalize maxR (H.take k) = S at *
      clear hO hb
      go_wp2
      refine ⟨⟨k + 1, by omega, by go_num, ?_, hBy⟩, by simp [intOf]; omega⟩
      rw [hsn.out]
      try (congr 1; split <;> omega)
    · obtain rfl : k = H.length := by omega
      rw [List.take_length]
      have hBf := bt_ hB hB1
      clear hB1 hb
      go_wp2
      go_ret
      rw [← hres.out]
      exact ⟨rfl, hBf⟩
theorem rowr_Len : (Try.prog.info? 104).bind (fun i => (i.methods.find? (·.name == "Len")).map fun m => (m.path.toList.length, m.func)) = some (0, some (122, false)) := by kernel_rfl
set_option maxHeartbeats 800000 in
theorem someR_c (b : Nat) (v : Value) (H : List (Int × Int)) (w0 w : World) (hN : Nr w0 w b v H) :
   Calls Try.prog 67 #[.iface 104 (.pointer (some ⟨b, 0, none⟩))] w fun e w' => e = .returned (.bool (decide (0 < H.length))) ∧ w = w' := by
  obtain ⟨A, c, rfl⟩ := rk_form (Own.rk hN.own)
  have c0 := hN.box.one
  have hm := ms_Len b _ w c0
  go_enter Try.func67, Try.ntmps67
  go_wp2_with fail
  refine (sLen_c _ _ _ w).mono ?_
  rintro e w1 ⟨rfl, rfl⟩
  have t1 : decide ((0 : Int) < (H.length : Int)) = decide (0 < H.length) := decide_eq_decide.2 (by omega)
  generalize decide (0 < H.length) = q at *
  go_wp2
  go_ret
  exact ⟨rfl, rfl⟩
end Go.Proofs.Ytacbenjfiabegaa
