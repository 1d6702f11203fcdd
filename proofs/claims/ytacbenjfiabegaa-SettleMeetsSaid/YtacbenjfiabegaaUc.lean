/- The walks of settle's count and Hold. -/
import Derived.Test.YtacbenjfiabegaaUb
import Derived.WalkMore
namespace Go.Proofs.Ytacbenjfiabegaa
set_option linter.unusedVariables false
set_option linter.unusedSimpArgs false
open Go.RowKit Go.Proofs.YtacbenjfiabegaaW.PrintWords Go.Proofs.Sh

def cntP (P : Ms → Bool) (l : List Ms) : Nat := (l.filter P).length
theorem cntP_snoc (P : Ms → Bool) (l : List Ms) (k : Nat) (h : k < l.length) : cntP P (l.take (k + 1)) = cntP P (l.take k) + if P (l.getD k zM) then 1 else 0 := by
  unfold cntP
  rw [take_snoc' l k zM h, List.filter_append, List.length_append]
  congr 1
  cases hp : P (l.getD k zM)
  · rw [List.filter_cons_of_neg (by rw [hp]; simp)]; rfl
  · rw [List.filter_cons_of_pos hp]; rfl
theorem cntP_le (P : Ms → Bool) (l : List Ms) : cntP P l ≤ l.length := List.length_filter_le _ _
set_option maxRecDepth 100000 in
set_option maxHeartbeats 3200000 in
theorem count_sound (v : Value) (l : List Ms) (gf : Nat) (w : World) (hv : Ml w v l) (hf : w.cell? ⟨gf, 0, none⟩ = some (.func (.func 61) #[] #[])) (hl : l.length ≤ 1000) :
   Calls Try.prog 60 #[v, .slice (some ⟨gf, 0, none⟩) 1 1] w fun e w' => e = .returned (.int .i64 (cntP soundB l : Nat)) ∧ Below w.heap.size w w' := by
  obtain ⟨A, c, rfl⟩ := rk_form hv.row
  go_enter Try.func60, Try.ntmps60
  go_wp2_with fail
  apply wp_scope_straight
  go_wp2_with fail
  apply wp_label
  go_wp2_with fail
  go_loopw [5, 12] (fun n i wr => ∃ k : Nat, k ≤ l.length ∧ i = .int .i64 k ∧ n = .int .i64 (cntP soundB (l.take k) : Nat) ∧ Below w.heap.size w wr) (fun _ i _ => l.length - (intOf i).toNat)
  case atStart => exact ⟨0, by omega, rfl, rfl, Below.refl _ _⟩
  case round =>
    obtain ⟨k, hk, rfl, rfl, hB⟩ := hrel
    by_cases hlt : k < l.length
    · have hcle := Nat.le_trans (cntP_le soundB (l.take k)) (by rw [List.length_take]; omega : (l.take k).length ≤ k)
      have hsn := cntP_snoc soundB l k hlt
      obtain ⟨ad, rfl, hok, hc⟩ := msg_at (hv.below hB).row k hlt
      have hrd := (hv.rd (l.getD k zM) (by rw [List.getD_eq_getElem?_getD, List.getElem?_eq_getElem hlt]; exact List.getElem_mem _)).below hB
      skip
      generalize l.getD k zM = x at *
      have hz := Blk.new wr zeroC 56
      have hbx := boxM_blk wr x
      have hbb := boxM_below wr x
      replace hrd := hrd.below hbb
      have hB2 := bt_ hB hbb
      have hc2 := Lib.hid hc
      clear hc
      go_wp2_with (first
        | ((with_reducible refine gate_dst (N := 15) rfl ?_); refine wpList_load_msg rfl (.tmp 14) rfl (ad.add (k * 13)) rfl x hc2.out ?_)
        | (refine wpList_store_row rfl 56 (.tmp 7) (.tmp 15) rfl wr.heap.size (mC x) rfl rfl 56 zeroC hz (by kernel_rfl) rfl hok.all ?_; change wpList _ _ _ _ _ (boxM wr x))
        | fail)
      have hf2 := pw_cell_below hB2 hf
      have hcall := Lib.hid (sound_c x (boxM wr x) hrd)
      generalize cntP soundB (l.take k) = S at *
      replace hsn := Lib.hid hsn
      generalize boxM wr x = W2 at *
      generalize wr.heap.size = bx at *
      clear hrd hbb hB hz hc2
      go_loopw [18] (fun j wq => (j = .int .i64 0 ∧ wq = W2) ∨ (j = .int .i64 1 ∧ Hid (soundB x = true) ∧ Below w.heap.size w wq)) (fun j _ => 1 - (intOf j).toNat)
      case atStart => exact .inl ⟨rfl, rfl⟩
      case round =>
        rcases hrel with ⟨rfl, rfl⟩ | ⟨rfl, hp, hBq⟩
        · go_wp2_with (first
            | ((with_reducible refine gate_dst (N := 23) rfl ?_); refine wpList_load_row rfl 56 (.tmp 7) rfl bx rfl 56 (mC x) (0, 0) _ hbx Try.underlying56 rfl (by kernel_rfl) ?_)
            | fail)
          refine hcall.out.mono ?_
          rintro e w9 ⟨rfl, h9⟩
          have hB9 := bt_ hB2 h9
          cases hp : soundB x with
          | true =>
            have hp2 := Lib.hid hp
            clear hp hcall hB2 h9
            go_wp2
            exact ⟨.inr ⟨rfl, hp2, hB9⟩, by simp [intOf]⟩
          | false =>
            have hs := hsn.out
            rw [hp] at hs
            have hs2 := Lib.hid (show cntP soundB (l.take (k + 1)) = S by rw [hs]; simp)
            clear hp hcall hB2 h9 hs
            go_wp2
            exact ⟨⟨k + 1, by omega, by go_num, by rw [hs2.out], hB9⟩, by simp [intOf]; omega⟩
        · have hs := hsn.out
          rw [hp.out] at hs
          have hs2 := Lib.hid (show cntP soundB (l.take (k + 1)) = S + 1 by rw [hs]; simp)
          clear hp hcall hB2 hs
          go_wp2
          exact ⟨⟨k + 1, by omega, by go_num, by rw [hs2.out]; go_num, hBq⟩, by simp [intOf]; omega⟩
    · obtain rfl : k = l.length := by omega
      rw [List.take_length]
      go_wp2
      simp only [Exit.inBlock, Exit.then, Exit.noGoto]
      go_ret
      exact ⟨rfl, hB⟩
set_option maxRecDepth 100000 in
set_option maxHeartbeats 3200000 in
theorem count_left (v : Value) (l : List Ms) (gf : Nat) (w : World) (hv : Ml w v l) (hf : w.cell? ⟨gf, 0, none⟩ = some (.func (.func 63) #[] #[])) (hl : l.length ≤ 1000) :
   Calls Try.prog 60 #[v, .slice (some ⟨gf, 0, none⟩) 1 1] w fun e w' => e = .returned (.int .i64 (cntP leftB l : Nat)) ∧ Below w.heap.size w w' := by
  obtain ⟨A, c, rfl⟩ := rk_form hv.row
  go_enter Try.func60, Try.ntmps60
  go_wp2_with fail
  apply wp_scope_straight
  go_wp2_with fail
  apply wp_label
  go_wp2_with fail
  go_loopw [5, 12] (fun n i wr => ∃ k : Nat, k ≤ l.length ∧ i = .int .i64 k ∧ n = .int .i64 (cntP leftB (l.take k) : Nat) ∧ Below w.heap.size w wr) (fun _ i _ => l.length - (intOf i).toNat)
  case atStart => exact ⟨0, by omega, rfl, rfl, Below.refl _ _⟩
  case round =>
    obtain ⟨k, hk, rfl, rfl, hB⟩ := hrel
    by_cases hlt : k < l.length
    · have hcle := Nat.le_trans (cntP_le leftB (l.take k)) (by rw [List.length_take]; omega : (l.take k).length ≤ k)
      have hsn := cntP_snoc leftB l k hlt
      obtain ⟨ad, rfl, hok, hc⟩ := msg_at (hv.below hB).row k hlt
      have hrd := (hv.rd (l.getD k zM) (by rw [List.getD_eq_getElem?_getD, List.getElem?_eq_getElem hlt]; exact List.getElem_mem _)).below hB
      skip
      generalize l.getD k zM = x at *
      have hz := Blk.new wr zeroC 56
      have hbx := boxM_blk wr x
      have hbb := boxM_below wr x
      replace hrd := hrd.below hbb
      have hB2 := bt_ hB hbb
      have hc2 := Lib.hid hc
      clear hc
      go_wp2_with (first
        | ((with_reducible refine gate_dst (N := 15) rfl ?_); refine wpList_load_msg rfl (.tmp 14) rfl (ad.add (k * 13)) rfl x hc2.out ?_)
        | (refine wpList_store_row rfl 56 (.tmp 7) (.tmp 15) rfl wr.heap.size (mC x) rfl rfl 56 zeroC hz (by kernel_rfl) rfl hok.all ?_; change wpList _ _ _ _ _ (boxM wr x))
        | fail)
      have hf2 := pw_cell_below hB2 hf
      have hcall := Lib.hid (left36_c x (boxM wr x) hrd)
      generalize cntP leftB (l.take k) = S at *
      replace hsn := Lib.hid hsn
      generalize boxM wr x = W2 at *
      generalize wr.heap.size = bx at *
      clear hrd hbb hB hz hc2
      go_loopw [18] (fun j wq => (j = .int .i64 0 ∧ wq = W2) ∨ (j = .int .i64 1 ∧ Hid (leftB x = true) ∧ Below w.heap.size w wq)) (fun j _ => 1 - (intOf j).toNat)
      case atStart => exact .inl ⟨rfl, rfl⟩
      case round =>
        rcases hrel with ⟨rfl, rfl⟩ | ⟨rfl, hp, hBq⟩
        · go_wp2_with (first
            | ((with_reducible refine gate_dst (N := 23) rfl ?_); refine wpList_load_row rfl 56 (.tmp 7) rfl bx rfl 56 (mC x) (0, 0) _ hbx Try.underlying56 rfl (by kernel_rfl) ?_)
            | fail)
          refine hcall.out.mono ?_
          rintro e w9 ⟨rfl, h9⟩
          have hB9 := bt_ hB2 h9
          cases hp : leftB x with
          | true =>
            have hp2 := Lib.hid hp
            clear hp hcall hB2 h9
            go_wp2
            exact ⟨.inr ⟨rfl, hp2, hB9⟩, by simp [intOf]⟩
          | false =>
            have hs := hsn.out
            rw [hp] at hs
            have hs2 := Lib.hid (show cntP leftB (l.take (k + 1)) = S by rw [hs]; simp)
            clear hp hcall hB2 h9 hs
            go_wp2
            exact ⟨⟨k + 1, by omega, by go_num, by rw [hs2.out], hB9⟩, by simp [intOf]; omega⟩
        · have hs := hsn.out
          rw [hp.out] at hs
          have hs2 := Lib.hid (show cntP leftB (l.take (k + 1)) = S + 1 by rw [hs]; simp)
          clear hp hcall hB2 hs
          go_wp2
          exact ⟨⟨k + 1, by omega, by go_num, by rw [hs2.out]; go_num, hBq⟩, by simp [intOf]; omega⟩
    · obtain rfl : k = l.length := by omega
      rw [List.take_length]
      go_wp2
      simp only [Exit.inBlock, Exit.then, Exit.noGoto]
      go_ret
      exact ⟨rfl, hB⟩
def msB (vm : Int) (x : Ms) : Bool := markB x && (x.m == vm)
set_option maxRecDepth 100000 in
set_option maxHeartbeats 3200000 in
theorem count_ms (v : Value) (l : List Ms) (gf bv : Nat) (vm : Int) (w : World) (hv : Ml w v l) (hf : w.cell? ⟨gf, 0, none⟩ = some (.func (.func 64) #[] #[])) (hf1 : w.cell? ⟨gf, 1, none⟩ = some (.func (.func 59) #[] #[.pointer (some ⟨bv, 0, none⟩)])) (hvm : w.cell? ⟨bv, 6, none⟩ = some (.int .i64 vm)) (hl : l.length ≤ 1000) :
   Calls Try.prog 60 #[v, .slice (some ⟨gf, 0, none⟩) 2 2] w fun e w' => e = .returned (.int .i64 (cntP (msB vm) l : Nat)) ∧ Below w.heap.size w w' := by
  obtain ⟨A, c, rfl⟩ := rk_form hv.row
  go_enter Try.func60, Try.ntmps60
  go_wp2_with fail
  apply wp_scope_straight
  go_wp2_with fail
  apply wp_label
  go_wp2_with fail
  go_loopw [5, 12] (fun n i wr => ∃ k : Nat, k ≤ l.length ∧ i = .int .i64 k ∧ n = .int .i64 (cntP (msB vm) (l.take k) : Nat) ∧ Below w.heap.size w wr) (fun _ i _ => l.length - (intOf i).toNat)
  case atStart => exact ⟨0, by omega, rfl, rfl, Below.refl _ _⟩
  case round =>
    obtain ⟨k, hk, rfl, rfl, hB⟩ := hrel
    by_cases hlt : k < l.length
    · have hcle := Nat.le_trans (cntP_le (msB vm) (l.take k)) (by rw [List.length_take]; omega : (l.take k).length ≤ k)
      have hsn := cntP_snoc (msB vm) l k hlt
      obtain ⟨ad, rfl, hok, hc⟩ := msg_at (hv.below hB).row k hlt
      have hrd := (hv.rd (l.getD k zM) (by rw [List.getD_eq_getElem?_getD, List.getElem?_eq_getElem hlt]; exact List.getElem_mem _)).below hB
      skip
      generalize l.getD k zM = x at *
      have hz := Blk.new wr zeroC 56
      have hbx := boxM_blk wr x
      have hbb := boxM_below wr x
      replace hrd := hrd.below hbb
      have hB2 := bt_ hB hbb
      have hc2 := Lib.hid hc
      clear hc
      go_wp2_with (first
        | ((with_reducible refine gate_dst (N := 15) rfl ?_); refine wpList_load_msg rfl (.tmp 14) rfl (ad.add (k * 13)) rfl x hc2.out ?_)
        | (refine wpList_store_row rfl 56 (.tmp 7) (.tmp 15) rfl wr.heap.size (mC x) rfl rfl 56 zeroC hz (by kernel_rfl) rfl hok.all ?_; change wpList _ _ _ _ _ (boxM wr x))
        | fail)
      have hf2 := pw_cell_below hB2 hf
      have hf3 := pw_cell_below hB2 hf1
      have hcall := Lib.hid (marked_c x (boxM wr x))
      have hcall2 := fun W h => Lib.hid (same36_c x bv vm W h)
      have hvm2 := pw_cell_below hB2 hvm
      generalize cntP (msB vm) (l.take k) = S at *
      replace hsn := Lib.hid hsn
      generalize boxM wr x = W2 at *
      generalize wr.heap.size = bx at *
      clear hrd hbb hB hz hc2
      go_loopw [18] (fun j wq => (j = .int .i64 0 ∧ wq = W2) ∨ (j = .int .i64 1 ∧ Hid (markB x = true) ∧ Below w.heap.size w wq ∧ Below W2.heap.size W2 wq) ∨ (j = .int .i64 2 ∧ Hid (msB vm x = true) ∧ Below w.heap.size w wq)) (fun j _ => 2 - (intOf j).toNat)
      case atStart => exact .inl ⟨rfl, rfl⟩
      case round =>
        rcases hrel with ⟨rfl, rfl⟩ | ⟨rfl, hp, hBq, hBW⟩ | ⟨rfl, hp, hBq⟩
        · go_wp2_with (first
            | ((with_reducible refine gate_dst (N := 23) rfl ?_); refine wpList_load_row rfl 56 (.tmp 7) rfl bx rfl 56 (mC x) (0, 0) _ hbx Try.underlying56 rfl (by kernel_rfl) ?_)
            | fail)
          refine hcall.out.mono ?_
          rintro e w9 ⟨rfl, h9⟩
          have hB9 := bt_ hB2 h9
          cases hp : markB x with
          | true =>
            have hp2 := Lib.hid hp
            clear hp hcall hB2 hcall2
            go_wp2
            exact ⟨.inr (.inl ⟨rfl, hp2, hB9, h9⟩), by simp [intOf]⟩
          | false =>
            have hs := hsn.out
            rw [show msB vm x = false by unfold msB; rw [hp]; rfl] at hs
            have hs2 := Lib.hid (show cntP (msB vm) (l.take (k + 1)) = S by rw [hs]; simp)
            clear hp hcall hcall2 hB2 h9 hs
            go_wp2
            exact ⟨⟨k + 1, by omega, by go_num, by rw [hs2.out], hB9⟩, by simp [intOf]; omega⟩
        · have hbx2 := hbx.below hBW
          have hf4 := pw_cell_below hBW hf3
          have hc9 := hcall2 wr (pw_cell_below hBW hvm2)
          go_wp2_with (first
            | ((with_reducible refine gate_dst (N := 23) rfl ?_); refine wpList_load_row rfl 56 (.tmp 7) rfl bx rfl 56 (mC x) (0, 0) _ hbx2 Try.underlying56 rfl (by kernel_rfl) ?_)
            | fail)
          refine hc9.out.mono ?_
          rintro e w9 ⟨rfl, h9⟩
          have hB9 := bt_ hBq h9
          cases hq : (x.m == vm) with
          | true =>
            have hp2 : Hid (msB vm x = true) := Lib.hid (by unfold msB; rw [hp.out, hq]; rfl)
            clear hp hq hcall hB2 hcall2 hc9
            go_wp2
            exact ⟨.inr (.inr ⟨rfl, hp2, hB9⟩), by simp [intOf]⟩
          | false =>
            have hs := hsn.out
            rw [show msB vm x = false by unfold msB; rw [hq]; simp] at hs
            have hs2 := Lib.hid (show cntP (msB vm) (l.take (k + 1)) = S by rw [hs]; simp)
            clear hp hq hcall hcall2 hB2 h9 hs hc9
            go_wp2
            exact ⟨⟨k + 1, by omega, by go_num, by rw [hs2.out], hB9⟩, by simp [intOf]; omega⟩
        · have hs := hsn.out
          rw [hp.out] at hs
          have hs2 := Lib.hid (show cntP (msB vm) (l.take (k + 1)) = S + 1 by rw [hs]; simp)
          clear hp hcall hB2 hs hcall2
          go_wp2
          exact ⟨⟨k + 1, by omega, by go_num, by rw [hs2.out]; go_num, hBq⟩, by simp [intOf]; omega⟩
    · obtain rfl : k = l.length := by omega
      rw [List.take_length]
      go_wp2
      simp only [Exit.inBlock, Exit.then, Exit.noGoto]
      go_ret
      exact ⟨rfl, hB⟩
end Go.Proofs.Ytacbenjfiabegaa
