/- The walks of package rebuild: values, when, the check's closures. -/
import Derived.Test.YtijeabhfddaoaaaR11
import Derived.Test.YtijeabhfddaoaaaK7
namespace Go.Proofs.Ytijeabhfddaoaaa
set_option linter.unusedVariables false
open Go.RowKit Go.Proofs.YtijeabhfddaoaaaW.PrintWords Go.Proofs.Sh

theorem colOf_take_succ (sh : List (List F)) (k q : Nat) (h : q < sh.length) : F.colOf (sh.take (q + 1)) k = F.colOf (sh.take q) k ++ [(sh.getD q []).getD k 0] := by
  rw [take_snoc' sh q [] h]
  simp [F.colOf]
set_option maxRecDepth 100000 in
set_option maxHeartbeats 1600000 in
theorem bValues_c (u : Value) (sh : List (List F)) (k : Nat) (w : World) (hu : Rbb w u sh) (hl : sh.length ≤ 1000) (hk : ∀ r ∈ sh, k < r.length) :
   Calls Try.prog 199 #[u, .int .i64 (k : Int)] w fun e w' => ∃ z, e = .returned z ∧ Ob w w' z (F.colOf sh k) ∧ Below w.heap.size w w' := by
  have hkk := Lib.hid (fun q (hq : q < sh.length) => hk (sh.getD q []) (by rw [List.getD_eq_getElem?_getD, List.getElem?_eq_getElem hq]; exact List.getElem_mem hq))
  clear hk
  obtain ⟨B, d, rfl⟩ := rk_form hu
  go_enter Try.func199, Try.ntmps199
  go_wp2_with ((with_reducible refine gate_dst (N := 10) rfl ?_); refine mk_cap kb rfl 40 5 _ _ rfl .i64 _ rfl rfl Try.underlying40 (.int .u8 0) 1 infoB (by decide) ?h0 ?hl (Below.refl w.heap.size w) ?_; (case h0 => omega); (case hl => omega); intro v1 w1 ho hb hg)
  replace ho : Ob w w1 v1 _ := ho
  clear hg
  go_wp2_with fail
  go_loopw [5, 7, 13] (fun s _ i wr => ∃ q : Nat, q ≤ sh.length ∧ i = .int .i64 q ∧ Ob w wr s (F.colOf (sh.take q) k) ∧ Below w.heap.size w wr) (fun _ _ i _ => sh.length - (intOf i).toNat)
  case atStart => exact ⟨0, by omega, rfl, ho, hb⟩
  case round =>
    clear ho hb
    obtain ⟨q, hq, rfl, hO, hB⟩ := hrel
    by_cases hlt : q < sh.length
    · obtain ⟨ad, u2, rfl, d0, hu2⟩ := kbb_at (rk_C hu) q hlt
      have d0 := pw_cell_below hB d0
      have hu2 := hu2.below hB
      have hrl := hkk.out q hlt
      have HS := Lib.hid (colOf_take_succ sh k q hlt)
      have hlen : (F.colOf (sh.take q) k).length ≤ 1000 := by rw [F.colOf_len, List.length_take]; omega
      obtain ⟨A2, c2, rfl⟩ := rk_form hu2
      obtain ⟨ad3, rfl, d2⟩ := kb_at (rk_C hu2) k hrl
      have i3 : (k : Int) < ((sh.getD q []).length : Int) := by omega
      generalize (sh.getD q []).getD k 0 = z at *
      generalize sh.getD q [] = r at *
      replace hrl := Lib.hid hrl
      generalize hC : F.colOf (sh.take q) k = C at *
      replace hC := Lib.hid hC
      go_wp2_with (at_builtin; refine app_one (enc := bV) rfl (.tmp 17) (.tmp 22) 40 5 (.int .u8 0) 1 rfl Try.underlying40 infoB rfl (by decide) _ _ z rfl rfl _ (bV_eq ?hc) hO hB ?hl ?_; (case hc => (first | exact rfl | exact rfl)); (case hl => (first | (simp; omega) | omega)); intro v1 w1 ho hb hg)
      exact ⟨⟨q + 1, by omega, by go_num, by rw [HS.out]; exact ho, hb⟩, by simp [intOf]; try omega⟩
    · obtain rfl : q = sh.length := by omega
      rw [List.take_length] at hO
      go_wp2
      go_ret
      exact ⟨_, rfl, hO, hB⟩
set_option maxHeartbeats 400000 in
theorem bWhen_c (b : Bool) (c : Int) (w : World) :
   Calls Try.prog 219 #[.bool b, .int .i64 c] w fun e w' => e = .returned (.int .i64 (if b = true then c else 0)) ∧ w = w' := by
  cases b <;> (go_enter Try.func219, Try.ntmps219
               go_wp2
               go_ret
               exact ⟨rfl, rfl⟩)
end Go.Proofs.Ytijeabhfddaoaaa
