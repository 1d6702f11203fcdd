/- The walk of settle's Hold. -/
import Derived.Test.YtacbenjfiabegaaUc
namespace Go.Proofs.Ytacbenjfiabegaa
set_option linter.unusedVariables false
set_option linter.unusedSimpArgs false
open Go.RowKit Go.Proofs.YtacbenjfiabegaaW.PrintWords Go.Proofs.Sh

def holdB (v : Vl) (x : Ms) : Bool := v.p && (x.h == 2) && (x.a == v.a) && (x.e == v.e)
def holdL (v : Vl) (l : List Ms) : List Int := (l.filter (holdB v)).map (·.f)
theorem holdL_snoc (v : Vl) (l : List Ms) (k : Nat) (h : k < l.length) : holdL v (l.take (k + 1)) = holdL v (l.take k) ++ if holdB v (l.getD k zM) then [(l.getD k zM).f] else [] := by
  unfold holdL
  rw [take_snoc' l k zM h, List.filter_append, List.map_append]
  congr 1
  cases hp : holdB v (l.getD k zM)
  · rw [List.filter_cons_of_neg (by rw [hp]; simp)]; rfl
  · rw [List.filter_cons_of_pos hp]; rfl
theorem holdL_le (v : Vl) (l : List Ms) : (holdL v l).length ≤ l.length := by unfold holdL; rw [List.length_map]; exact List.length_filter_le _ _
set_option maxRecDepth 100000 in
set_option maxHeartbeats 3200000 in
theorem Hold_c (u : Value) (l : List Ms) (v : Vl) (w : World) (hv : Ml w u l) (hl : l.length ≤ 1000) :
   Calls Try.prog 65 #[u, valV v] w fun e w' => ∃ z, e = .returned z ∧ Oi w w' z (holdL v l) ∧ Below w.heap.size w w' := by
  obtain ⟨A, c, rfl⟩ := rk_form hv.row
  have hV := Blk.new w (valC v) 33
  have hB0 := below_alloc (Below.refl w.heap.size w) (.cells (valC v) 33)
  have hvv := Lib.hid hv
  go_enter Try.func65, Try.ntmps65
  go_wp2_with fail
  generalize w.alloc (.cells (valC v) 33) = w1 at *
  clear hv
  go_loopw [5, 10] (fun s i wr => ∃ k : Nat, k ≤ l.length ∧ i = .int .i64 k ∧ Oi w wr s (holdL v (l.take k)) ∧ Below w.heap.size w wr ∧ Blk wr w.heap.size (valC v) 33) (fun _ i _ => l.length - (intOf i).toNat)
  case atStart => exact ⟨0, by omega, rfl, Own.nil _ _ _ _, hB0, hV⟩
  case round =>
    clear hV hB0
    obtain ⟨k, hk, rfl, hO, hB, hV⟩ := hrel
    have hv := hvv.out
    by_cases hlt : k < l.length
    · have hsn := holdL_snoc v l k hlt
      have hHl := Nat.le_trans (holdL_le v (l.take k)) (by rw [List.length_take]; omega : (l.take k).length ≤ k)
      obtain ⟨ad, rfl, hok, hc⟩ := msg_at (hv.below hB).row k hlt
      have hrd := (hv.rd (l.getD k zM) (by rw [List.getD_eq_getElem?_getD, List.getElem?_eq_getElem hlt]; exact List.getElem_mem _)).below hB
      skip
      generalize l.getD k zM = x at *
      have hz := Blk.new wr zeroC 56
      have hbx := boxM_blk wr x
      have hbb := boxM_below wr x
      replace hrd := hrd.below hbb
      have hB2 := bt_ hB hbb
      have hc2 := Lib.hid hc
      clear hc
      go_upto_region 5 with (first
        | ((with_reducible refine gate_dst (N := 13) rfl ?_); refine wpList_load_msg rfl (.tmp 12) rfl (ad.add (k * 13)) rfl x hc2.out ?_)
        | (refine wpList_store_row rfl 56 (.tmp 7) (.tmp 13) rfl wr.heap.size (mC x) rfl rfl 56 zeroC hz (by kernel_rfl) rfl hok.all ?_; change wpList _ _ _ _ _ (boxM wr x))
        | fail)
      have hV2 := hV.below hbb
      have hO2 := Own.below hO hbb
      generalize boxM wr x = W2 at *
      generalize wr.heap.size = bx at *
      obtain ⟨m0, m1, m5, m6, m7, m8, m9, _⟩ := mcell hbx
      have v0 : W2.cell? ⟨w.heap.size, 0, none⟩ = some (.bool v.p) := hV2.cell 0 _ rfl
      have v1 : W2.cell? ⟨w.heap.size, 1, none⟩ = some (.int .i64 v.a) := hV2.cell 1 _ rfl
      have v2 : W2.cell? ⟨w.heap.size, 2, none⟩ = some (.int .i64 v.e) := hV2.cell 2 _ rfl
      have hhb := Lib.hid (show holdB v x = (v.p && (x.h == 2) && (x.a == v.a) && (x.e == v.e)) from rfl)
      generalize holdL v (l.take k) = S at *
      replace hsn := Lib.hid hsn
      clear hrd hbb hB hV hO hz hc2 hbx hv
      generalize hb1 : v.p = b1 at *
      generalize hb2 : (x.h == 2) = b2 at *
      generalize hb3 : (x.a == v.a) = b3 at *
      generalize hb4 : (x.e == v.e) = b4 at *
      cases b1 with
      | false =>
        have hs := hsn.out
        rw [show holdB v x = false from by rw [hhb.out]; simp] at hs
        have hs2 := Lib.hid (show holdL v (l.take (k + 1)) = S by rw [hs]; simp)
        clear hs
        go_wp2
        exact ⟨⟨k + 1, by omega, by go_num, by rw [hs2.out]; exact hO2, hB2, hV2⟩, by simp [intOf]; omega⟩
      | true =>
        cases b2 with
        | false =>
          have hs := hsn.out
          rw [show holdB v x = false from by rw [hhb.out]; simp] at hs
          have hs2 := Lib.hid (show holdL v (l.take (k + 1)) = S by rw [hs]; simp)
          clear hs
          go_wp2
          exact ⟨⟨k + 1, by omega, by go_num, by rw [hs2.out]; exact hO2, hB2, hV2⟩, by simp [intOf]; omega⟩
        | true =>
          cases b3 with
          | false =>
            have hs := hsn.out
            rw [show holdB v x = false from by rw [hhb.out]; simp] at hs
            have hs2 := Lib.hid (show holdL v (l.take (k + 1)) = S by rw [hs]; simp)
            clear hs
            go_wp2
            exact ⟨⟨k + 1, by omega, by go_num, by rw [hs2.out]; exact hO2, hB2, hV2⟩, by simp [intOf]; omega⟩
          | true =>
            cases b4 with
            | false =>
              have hs := hsn.out
              rw [show holdB v x = false from by rw [hhb.out]; simp] at hs
              have hs2 := Lib.hid (show holdL v (l.take (k + 1)) = S by rw [hs]; simp)
              clear hs
              go_wp2
              exact ⟨⟨k + 1, by omega, by go_num, by rw [hs2.out]; exact hO2, hB2, hV2⟩, by simp [intOf]; omega⟩
            | true =>
              have hs := hsn.out
              rw [show holdB v x = true from by rw [hhb.out]; rfl] at hs
              have hs2 := Lib.hid (show holdL v (l.take (k + 1)) = S ++ [x.f] by rw [hs]; simp)
              clear hs
              go_wp2_with (at_builtin; refine app_one (enc := Value.int .i64) rfl (.tmp 35) (.tmp 38) 53 3 (.int .i64 0) 8 rfl Try.underlying53 infoI rfl (by decide) _ _ x.f rfl rfl _ (iV_eq ?hc) hO2 hB2 ?hl ?_; (case hc => (first | rfl | omega | (simp; done) | (simp; omega))); (case hl => (first | (simp; omega) | omega)); intro v1 w1 ho hb hg)
              exact ⟨⟨k + 1, by omega, by go_num, by rw [hs2.out]; exact ho, hb, hV2.grown hO2 (by decide) hg⟩, by simp [intOf]; omega⟩
    · obtain rfl : k = l.length := by omega
      rw [List.take_length] at hO
      go_wp2
      go_ret
      exact ⟨_, rfl, hO, hB⟩
end Go.Proofs.Ytacbenjfiabegaa
