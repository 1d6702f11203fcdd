/- The walks of the laws of layer 14 (masks): MaskMoves: what is plain in it. -/
import Derived.Test.YtijeabhfddaoaaaL14d
import Derived.Test.YtijeabhfddaoaaaZe
import Derived.Test.YtijeabhfddaoaaaR13
namespace Go.Proofs.Ytijeabhfddaoaaa
set_option linter.unusedVariables false
open Go.RowKit Go.Proofs.YtijeabhfddaoaaaW.PrintWords Go.Proofs.Sh

theorem ev_tp_ap (T : Nat) (tape m : List F) (h : T ≤ tape.length) (hm : m.length = T) (x : F) : F.ev x (F.tp T (apM tape 0 m) 0) = F.ev x (F.tp T tape 0) + F.ev x m := by
  have e : F.tp T (apM tape 0 m) 0 = F.padd (F.tp T tape 0) m := by
    have l1 : (F.tp T (apM tape 0 m) 0).length = T := F.tp_len T _ 0 (by rw [apM_len]; omega)
    have l2 : (F.tp T tape 0).length = T := F.tp_len T _ 0 (by omega)
    apply F.ext_at (by rw [l1, F.padd_len, l2, hm, Nat.max_self])
    intro k hk
    rw [l1] at hk
    rw [F.padd_at]
    show (F.tp T (apM tape 0 m) 0).getD k 0 = (F.tp T tape 0).getD k 0 + m.getD k 0
    rw [F.tp_at _ _ _ _ hk, F.tp_at _ _ _ _ hk, Nat.zero_mul, Nat.zero_add, apM_at _ _ _ _ (by omega), if_pos (by omega)]
    rfl
  rw [e, F.ev_padd]
theorem szd_same (l : List F) (n : Nat) (h : l.length = n) : szd l n = l := by subst h; exact szd_self l
section
variable {p : Pl} {d : List F} {z y : List Int}
theorem diff_sec (h : p.Ok) (hK : p.T + p.L < 255) (hz : maE p d.length z = 0) (hy : maE p d.length y = 0) (x : F) (hx : x ∈ secretsAt p) : F.ev x (F.padd (shOf p d z) (shOf p d y)) = 0 := by
  obtain ⟨j, hj, rfl⟩ := List.getElem_of_mem hx
  have e : (secretsAt p)[j] = (secretsAt p).getD j 0 := by simp [List.getD_eq_getElem?_getD, hj]
  have a := ma_zero hz
  have b := ma_zero hy
  rw [e, F.ev_padd, sh_secret p h hK d z a.2.1 a.2.2.1 a.2.2.2 j hj, sh_secret p h hK d y b.2.1 b.2.2.1 b.2.2.2 j hj, F.add_self]
theorem sh_len' (h : p.Ok) (hz : maE p d.length z = 0) : ((shOf p d z).length : Int) = p.T + p.L := by
  rw [sh_len]
  exact shXs_len p h z (ma_zero hz).2.1
theorem diff_len (h : p.Ok) (hz : maE p d.length z = 0) (hy : maE p d.length y = 0) : ((F.padd (shOf p d z) (shOf p d y)).length : Int) = p.T + p.L := by
  have a := sh_len' h hz
  have b := sh_len' h hy
  rw [F.padd_len]; omega
theorem zeroM_qts (h : p.Ok) (hz : maE p d.length z = 0) (hy : maE p d.length y = 0) : zeroM p (F.padd (shOf p d z) (shOf p d y)) = qts (secretsAt p) (F.padd (shOf p d z) (shOf p d y)) := by
  have a := diff_len h hz hy
  have := h.t
  have := h.l
  exact szd_same _ _ (by rw [qts_len, secrets_len]; omega)
theorem zsh_one (T : Nat) (root tape : List F) (x : F) : zsh T root tape 1 x = [F.ev x root * F.ev x (F.tp T tape 0)] := by simp [zsh, List.range_succ]
theorem bsh_one (W : Nat) (own : F) (tape : List F) (x : F) : bsh W own tape 1 x = [(x + own) * F.ev x (F.tp W tape 0)] := by simp [bsh, List.range_succ]
theorem zero_moves (h : p.Ok) (hK : p.T + p.L < 255) (hz : maE p d.length z = 0) (hy : maE p d.length y = 0) (tape : List F) (hT : p.T.toNat ≤ tape.length) (x : F) :
    F.ev x (F.rt (secretsAt p)) * F.ev x (F.tp p.T.toNat tape 0) + F.ev x (F.rt (secretsAt p)) * F.ev x (F.tp p.T.toNat (apM tape 0 (zeroM p (F.padd (shOf p d z) (shOf p d y)))) 0) = F.ev x (F.padd (shOf p d z) (shOf p d y)) := by
  have l : (zeroM p (F.padd (shOf p d z) (shOf p d y))).length = p.T.toNat := szd_len _ _
  rw [ev_tp_ap _ _ _ hT l, F.mul_add, ← F.add_assoc, F.add_self, F.zero_add, zeroM_qts h hz hy, F.mul_comm, qts_exact _ _ (secrets_nodup p h) (diff_sec h hK hz hy)]
theorem blind_moves (h : p.Ok) (hK : p.T + p.L < 255) (hz : maE p d.length z = 0) (t : Int) (ht : t ∈ z) (tape : List F) (W : Nat) (eW : p.T + p.L - 1 = W) (hT : W ≤ tape.length) (x : F) :
    (x + point t) * F.ev x (F.tp W tape 0) + (x + point t) * F.ev x (F.tp W (apM tape 0 (blindM p (shOf p d z) t)) 0) = F.ev x (shOf p d z) := by
  have a := ma_zero hz
  have l : (blindM p (shOf p d z) t).length = W := by rw [show (blindM p (shOf p d z) t).length = _ from szd_len _ _]; omega
  have b := sh_len' h hz
  have e : blindM p (shOf p d z) t = qts [point t] (shOf p d z) := szd_same _ _ (by rw [qts_len]; simp; omega)
  have hv : ∀ y ∈ [point t], F.ev y (shOf p d z) = 0 := fun y hy => by
    rw [List.mem_singleton.1 hy]
    exact sh_zero p h hK d z a.1 a.2.1 a.2.2.1 a.2.2.2 t ht
  have q := qts_exact (shOf p d z) [point t] (by simp) hv x
  rw [rt_one, F.ev_lin] at q
  rw [ev_tp_ap _ _ _ hT l, F.mul_add, ← F.add_assoc, F.add_self, F.zero_add, e, F.mul_comm, F.add_comm x, q]
end
end Go.Proofs.Ytijeabhfddaoaaa
