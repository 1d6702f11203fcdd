/- Plain: matrices of bytes: equations, Gauss' way, determinants without signs. -/
import Derived.Test.YtijeabhfddaoaaaM5
namespace Go.Proofs.Sh
set_option linter.unusedVariables false
namespace F
/-- A matrix as a function; a row of unknowns. -/
abbrev Mx := Nat → Nat → F
/-- The i-th equation's side. -/
def ap (n : Nat) (a : Mx) (x : Nat → F) (i : Nat) : F := sm n (fun j => a i j * x j)
/-- The equations 'left x = right y'. -/
def Eqs (n : Nat) (a b : Mx) (x y : Nat → F) : Prop := ∀ i, i < n → ap n a x i = ap n b y i
/-- Two pairs of matrices have the same solutions. -/
def Alike (n : Nat) (a b a' b' : Mx) : Prop := ∀ x y, Eqs n a b x y ↔ Eqs n a' b' x y
theorem Alike.refl (n : Nat) (a b : Mx) : Alike n a b a b := fun _ _ => Iff.rfl
theorem Alike.trans {n : Nat} {a b a' b' a'' b'' : Mx} (h : Alike n a b a' b') (k : Alike n a' b' a'' b'') : Alike n a b a'' b'' := fun x y => (h x y).trans (k x y)
/-- Rows changed by others. -/
def swp (a : Mx) (i k : Nat) : Mx := fun r => if r = i then a k else if r = k then a i else a r
def scl (a : Mx) (k : Nat) (c : F) : Mx := fun r j => if r = k then a r j * c else a r j
def adr (a : Mx) (i k : Nat) (c : F) : Mx := fun r j => if r = i then a r j + a k j * c else a r j
theorem ap_swp (n : Nat) (a : Mx) (i k : Nat) (x : Nat → F) (r : Nat) : ap n (swp a i k) x r = if r = i then ap n a x k else if r = k then ap n a x i else ap n a x r := by
  unfold ap swp
  split
  · rfl
  · split <;> rfl
theorem ap_scl (n : Nat) (a : Mx) (k : Nat) (c : F) (x : Nat → F) (r : Nat) : ap n (scl a k c) x r = if r = k then ap n a x r * c else ap n a x r := by
  unfold ap scl
  split
  · rw [sm_mul]
    exact sm_congr fun j _ => by ac_rfl
  · rfl
theorem ap_adr (n : Nat) (a : Mx) (i k : Nat) (c : F) (x : Nat → F) (r : Nat) : ap n (adr a i k c) x r = if r = i then ap n a x r + ap n a x k * c else ap n a x r := by
  unfold ap adr
  split
  · rw [sm_mul, ← sm_add]
    exact sm_congr fun j _ => by rw [add_mul]; congr 1; ac_rfl
  · rfl
theorem alike_swp (n : Nat) (a b : Mx) (i k : Nat) (hi : i < n) (hk : k < n) : Alike n a b (swp a i k) (swp b i k) := by
  intro x y
  constructor
  · intro h r hr
    rw [ap_swp, ap_swp, h k hk, h i hi, h r hr]
  · intro h r hr
    by_cases e : r = i
    · subst e
      have := h k hk
      rw [ap_swp, ap_swp] at this
      by_cases e2 : k = r
      · subst e2; simpa using this
      · simpa [e2] using this
    · by_cases e2 : r = k
      · subst e2
        have := h i hi
        rw [ap_swp, ap_swp] at this
        simpa using this
      · have := h r hr
        rw [ap_swp, ap_swp] at this
        simpa [e, e2] using this
theorem mul_cancel_r {a b c : F} (h : c ≠ 0) (e : a * c = b * c) : a = b := mul_cancel h (by rw [mul_comm c a, mul_comm c b]; exact e)
theorem add_cancel_r {a b c : F} (e : a + c = b + c) : a = b := add_cancel (a := c) (by rw [add_comm c a, add_comm c b]; exact e)
theorem alike_scl (n : Nat) (a b : Mx) (k : Nat) (c : F) (hc : c ≠ 0) : Alike n a b (scl a k c) (scl b k c) := by
  intro x y
  constructor
  · intro h r hr
    rw [ap_scl, ap_scl, h r hr]
  · intro h r hr
    have := h r hr
    rw [ap_scl, ap_scl] at this
    by_cases e : r = k
    · rw [if_pos e, if_pos e] at this
      exact mul_cancel_r hc this
    · rwa [if_neg e, if_neg e] at this
theorem alike_adr (n : Nat) (a b : Mx) (i k : Nat) (c : F) (hk : k < n) (hne : i ≠ k) : Alike n a b (adr a i k c) (adr b i k c) := by
  intro x y
  constructor
  · intro h r hr
    rw [ap_adr, ap_adr, h r hr, h k hk]
  · intro h
    have h1 : ap n a x k = ap n b y k := by
      have := h k hk
      rwa [ap_adr, ap_adr, if_neg (fun e => hne e.symm), if_neg (fun e => hne e.symm)] at this
    intro r hr
    have := h r hr
    rw [ap_adr, ap_adr] at this
    by_cases e : r = i
    · rw [if_pos e, if_pos e, h1] at this
      exact add_cancel_r this
    · rwa [if_neg e, if_neg e] at this
/-! ### what the code does -/
/-- Column k made 0 but for its own row: the first r rows of it. -/
def cln (a : Mx) (k : Nat) (b : Mx) : Nat → Mx
  | 0 => b
  | r + 1 => if r = k then cln a k b r else adr (cln a k b r) r k (a r k)
theorem cln_at (a : Mx) (k : Nat) (b : Mx) : ∀ (r i : Nat), cln a k b r i = if i < r ∧ i ≠ k then fun j => b i j + b k j * a i k else b i
  | 0, i => by simp [cln]
  | r + 1, i => by
    unfold cln
    by_cases e : r = k
    · rw [if_pos e, cln_at a k b r i]
      by_cases h : i < r ∧ i ≠ k
      · rw [if_pos h, if_pos ⟨by omega, h.2⟩]
      · rw [if_neg h, if_neg (by omega)]
    · rw [if_neg e]
      funext j
      unfold adr
      by_cases h2 : i = r
      · subst h2
        rw [if_pos rfl, if_pos ⟨by omega, e⟩, cln_at a k b i i, cln_at a k b i k, if_neg (by omega), if_neg (by omega)]
      · rw [if_neg h2, cln_at a k b r i]
        by_cases h : i < r ∧ i ≠ k
        · rw [if_pos h, if_pos ⟨by omega, h.2⟩]
        · rw [if_neg h, if_neg (by omega)]
theorem alike_cln (n : Nat) (a b c : Mx) (k : Nat) (hk : k < n) : ∀ r, r ≤ n → Alike n b c (cln a k b r) (cln a k c r)
  | 0, _ => Alike.refl _ _ _
  | r + 1, h => by
    have ih := alike_cln n a b c k hk r (by omega)
    unfold cln
    by_cases e : r = k
    · rw [if_pos e, if_pos e]; exact ih
    · rw [if_neg e, if_neg e]
      exact ih.trans (alike_adr n _ _ r k _ hk e)
/-- The first row from i on that has something in column k. -/
def piv (a : Mx) (k n : Nat) : Nat → Nat → Option Nat
  | 0, _ => none
  | f + 1, i => if i < n then (if a i k = 0 then piv a k n f (i + 1) else some i) else none
theorem piv_some {a : Mx} {k n : Nat} : ∀ {f i r : Nat}, piv a k n f i = some r → i ≤ r ∧ r < n ∧ a r k ≠ 0
  | f + 1, i, r, h => by
    unfold piv at h
    split at h
    · split at h
      · obtain ⟨h1, h2, h3⟩ := piv_some h
        exact ⟨by omega, h2, h3⟩
      · injection h with h; subst h; rename_i h1 h2; exact ⟨Nat.le_refl _, h1, h2⟩
    · cases h
theorem piv_none {a : Mx} {k n : Nat} : ∀ {f i : Nat}, n ≤ f + i → piv a k n f i = none → ∀ r, i ≤ r → r < n → a r k = 0
  | 0, i, hf, _, r, h1, h2 => by omega
  | f + 1, i, hf, h, r, h1, h2 => by
    unfold piv at h
    split at h
    · split at h
      · rename_i h3 h4
        by_cases e : r = i
        · subst e; exact h4
        · exact piv_none (by omega) h r (by omega) h2
      · cases h
    · rename_i h3; omega
/-- One column: both matrices behind it. -/
def col (n : Nat) (p : Mx × Mx) (k : Nat) : Option (Mx × Mx) :=
  (piv p.1 k n n k).map fun i =>
    let c := inv (p.1 i k)
    let l := scl (swp p.1 i k) k c
    let r := scl (swp p.2 i k) k c
    (cln l k l n, cln l k r n)
/-- The first columns. -/
def gs (n : Nat) (p : Mx × Mx) : Nat → Option (Mx × Mx)
  | 0 => some p
  | k + 1 => (gs n p k).bind fun q => col n q k
/-- The unit matrix. -/
def one_ : Mx := fun i j => if i = j then 1 else 0
/-- The first k columns are the unit matrix's. -/
def Clean (n k : Nat) (a : Mx) : Prop := ∀ i j, i < n → j < k → a i j = one_ i j
theorem col_alike {n k : Nat} {p q : Mx × Mx} (hk : k < n) (h : col n p k = some q) : Alike n p.1 p.2 q.1 q.2 := by
  unfold col at h
  obtain ⟨i, hi, rfl⟩ := Option.map_eq_some_iff.1 h
  obtain ⟨h1, h2, h3⟩ := piv_some hi
  exact ((alike_swp n _ _ i k h2 hk).trans (alike_scl n _ _ k _ (inv_ne h3))).trans (alike_cln n _ _ _ k hk n (Nat.le_refl _))
theorem col_clean {n k : Nat} {p q : Mx × Mx} (hk : k < n) (hc : Clean n k p.1) (h : col n p k = some q) : Clean n (k + 1) q.1 := by
  unfold col at h
  obtain ⟨i, hi, rfl⟩ := Option.map_eq_some_iff.1 h
  obtain ⟨h1, h2, h3⟩ := piv_some hi
  have hkk : scl (swp p.1 i k) k (inv (p.1 i k)) k k = 1 := by
    unfold scl swp
    rw [if_pos rfl]
    by_cases e : k = i
    · subst e; rw [if_pos rfl]; exact mul_inv h3
    · rw [if_neg e, if_pos rfl]; exact mul_inv h3
  have hold : Clean n k (scl (swp p.1 i k) k (inv (p.1 i k))) := by
    intro r j hr hj
    have hk0 : p.1 k j = 0 := by rw [hc k j hk hj]; exact if_neg (by omega)
    have hi0 : p.1 i j = 0 := by rw [hc i j h2 hj]; exact if_neg (by omega)
    unfold scl swp
    by_cases e : r = k
    · subst e
      rw [if_pos rfl]
      have : one_ r j = 0 := if_neg (by omega)
      rw [this]
      by_cases e2 : r = i
      · subst e2; rw [if_pos rfl, hk0, zero_mul]
      · rw [if_neg e2, if_pos rfl, hi0, zero_mul]
    · rw [if_neg e]
      by_cases e2 : r = i
      · subst e2
        rw [if_pos rfl, hk0]
        exact (if_neg (by omega)).symm
      · rw [if_neg e2, if_neg e]
        exact hc r j hr hj
  intro r j hr hj
  show cln _ k _ n r j = _
  rw [cln_at]
  by_cases e : r = k
  · subst e
    rw [if_neg (by omega)]
    by_cases e2 : j = r
    · subst e2
      rw [hkk]; exact (if_pos rfl).symm
    · exact hold r j hr (by omega)
  · rw [if_pos ⟨hr, e⟩]
    show _ + _ * _ = _
    by_cases e2 : j = k
    · subst e2
      rw [hkk, one_mul, add_self]
      exact (if_neg e).symm
    · rw [hold r j hr (by omega), hold k j hk (by omega)]
      have : one_ k j = 0 := if_neg (by omega)
      rw [this, zero_mul, add_zero]
theorem gs_ok {n : Nat} {p : Mx × Mx} : ∀ {k : Nat} {q : Mx × Mx}, k ≤ n → gs n p k = some q → Alike n p.1 p.2 q.1 q.2 ∧ Clean n k q.1
  | 0, q, _, h => by
    injection h with h; subst h
    exact ⟨Alike.refl _ _ _, fun i j _ hj => by omega⟩
  | k + 1, q, hk, h => by
    obtain ⟨m, hm, hq⟩ := Option.bind_eq_some_iff.1 h
    obtain ⟨h1, h2⟩ := gs_ok (by omega) hm
    exact ⟨h1.trans (col_alike (by omega) hq), col_clean (by omega) h2 hq⟩
theorem ap_one {n : Nat} (a : Mx) (h : Clean n n a) (x : Nat → F) (i : Nat) (hi : i < n) : ap n a x i = x i := by
  unfold ap
  rw [sm_one i hi (fun j hj hne => by rw [h i j hi hj]; show (if i = j then (1 : F) else 0) * _ = 0; rw [if_neg (fun e => hne e.symm), zero_mul]), h i i hi hi]
  show (if i = i then (1 : F) else 0) * _ = _
  rw [if_pos rfl, one_mul]
theorem clean_one (n : Nat) : Clean n n one_ := fun _ _ _ _ => rfl
/-- The unit column. -/
def uc (k : Nat) : Nat → F := fun j => if j = k then 1 else 0
theorem ap_uc {n : Nat} (a : Mx) (k : Nat) (hk : k < n) (i : Nat) : ap n a (uc k) i = a i k := by
  unfold ap
  rw [sm_one k hk (fun j _ hne => by show _ * (if j = k then (1 : F) else 0) = 0; rw [if_neg hne, mul_zero])]
  show _ * (if k = k then (1 : F) else 0) = _
  rw [if_pos rfl, mul_one]
theorem ap_zero {n : Nat} (a : Mx) (i : Nat) : ap n a (fun _ => 0) i = 0 := sm_zero fun j _ => mul_zero _
/-- Where Gauss' way ends well, there are solutions, and but one. -/
theorem gs_solves {n : Nat} {a : Mx} {q : Mx × Mx} (h : gs n (a, one_) n = some q) (x y : Nat → F) : (∀ i, i < n → ap n a x i = y i) ↔ ∀ i, i < n → x i = ap n q.2 y i := by
  obtain ⟨h1, h2⟩ := gs_ok (Nat.le_refl n) h
  have h3 := h1 x y
  unfold Eqs at h3
  constructor
  · intro h4 i hi
    have := h3.1 (fun i hi => by rw [ap_one one_ (clean_one n) y i hi]; exact h4 i hi) i hi
    rwa [ap_one _ h2 x i hi] at this
  · intro h4 i hi
    have := h3.2 (fun i hi => by rw [ap_one _ h2 x i hi]; exact h4 i hi) i hi
    rwa [ap_one one_ (clean_one n) y i hi] at this
theorem gs_right {n : Nat} {a : Mx} {q : Mx × Mx} (h : gs n (a, one_) n = some q) (i k : Nat) (hi : i < n) (hk : k < n) : sm n (fun j => a i j * q.2 j k) = one_ i k := by
  have := (gs_solves h (fun j => q.2 j k) (uc k)).2 (fun i hi => (ap_uc _ _ hk i).symm) i hi
  rw [show one_ i k = uc k i from rfl]
  exact this
theorem gs_left {n : Nat} {a : Mx} {q : Mx × Mx} (h : gs n (a, one_) n = some q) (i k : Nat) (hi : i < n) (hk : k < n) : sm n (fun j => q.2 i j * a j k) = one_ i k := by
  have := (gs_solves h (uc k) (fun j => a j k)).1 (fun i hi => ap_uc _ _ hk i) i hi
  rw [show one_ i k = uc k i from rfl]
  exact this.symm
/-- Where it ends ill, something that is not 0 is taken to 0. -/
theorem gs_fails {n : Nat} {a : Mx} : ∀ {k : Nat}, k ≤ n → gs n (a, one_) k = none → ∃ (m : Nat) (q : Mx × Mx), m < k ∧ gs n (a, one_) m = some q ∧ ∀ r, m ≤ r → r < n → q.1 r m = 0
  | 0, _, h => by cases h
  | k + 1, hk, h => by
    cases hg : gs n (a, one_) k with
    | none => obtain ⟨m, q, h1, h2⟩ := gs_fails (by omega) hg; exact ⟨m, q, by omega, h2⟩
    | some q =>
      have h' : col n q k = none := by
        have : gs n (a, one_) (k + 1) = (gs n (a, one_) k).bind fun q => col n q k := rfl
        rw [this, hg] at h
        exact h
      refine ⟨k, q, by omega, hg, ?_⟩
      have : piv q.1 k n n k = none := by
        unfold col at h'
        exact Option.map_eq_none_iff.1 h'
      exact piv_none (by omega) this
theorem gs_kernel {n : Nat} {a : Mx} (h : gs n (a, one_) n = none) : ∃ x : Nat → F, (∀ i, i < n → ap n a x i = 0) ∧ ∃ k, k < n ∧ x k ≠ 0 := by
  obtain ⟨k, q, hk, hq, hz⟩ := gs_fails (Nat.le_refl n) h
  obtain ⟨h1, h2⟩ := gs_ok (by omega) hq
  let x : Nat → F := fun j => if j < k then q.1 j k else if j = k then 1 else 0
  refine ⟨x, ?_, k, hk, ?_⟩
  · have h3 : Eqs n q.1 q.2 x (fun _ => 0) := by
      intro i hi
      rw [ap_zero]
      have hx : ∀ j, j < n → q.1 i j * x j = (if j = k then q.1 i k else 0) + (if j = i then (if i < k then q.1 i k else 0) else 0) := by
        intro j hj
        show _ * (if j < k then q.1 j k else if j = k then 1 else 0) = _
        by_cases e1 : j < k
        · rw [if_pos e1, if_neg (by omega), zero_add, h2 i j hi e1]
          show (if i = j then (1 : F) else 0) * _ = _
          by_cases e2 : i = j
          · subst e2; rw [if_pos rfl, if_pos rfl, if_pos e1, one_mul]
          · rw [if_neg e2, if_neg (fun e => e2 e.symm), zero_mul]
        · rw [if_neg e1]
          by_cases e2 : j = k
          · subst e2
            rw [if_pos rfl, if_pos rfl, mul_one]
            by_cases e3 : j = i
            · subst e3
              rw [if_pos rfl, if_neg (Nat.lt_irrefl _), add_zero]
            · rw [if_neg e3, add_zero]
          · rw [if_neg e2, if_neg e2, mul_zero, zero_add]
            by_cases e3 : j = i
            · subst e3
              rw [if_pos rfl, if_neg e1]
            · rw [if_neg e3]
      unfold ap
      rw [sm_congr hx, sm_add, sm_one k hk (fun j _ hne => if_neg hne), sm_one i hi (fun j _ hne => if_neg hne), if_pos rfl, if_pos rfl]
      by_cases e : i < k
      · rw [if_pos e, add_self]
      · rw [if_neg e, hz i (by omega) hi, add_zero]
    have h4 := (h1 x (fun _ => 0)).2 h3
    intro i hi
    have := h4 i hi
    rwa [ap_zero] at this
  · show (if k < k then q.1 k k else if k = k then 1 else 0) ≠ 0
    rw [if_neg (Nat.lt_irrefl _), if_pos rfl]
    exact one_ne
theorem gs_iff {n : Nat} {a : Mx} : (gs n (a, one_) n ≠ none) ↔ ∀ x : Nat → F, (∀ i, i < n → ap n a x i = 0) → ∀ k, k < n → x k = 0 := by
  constructor
  · intro h x hx k hk
    obtain ⟨q, hq⟩ := Option.ne_none_iff_exists'.1 h
    rw [(gs_solves hq x (fun _ => 0)).1 hx k hk, ap_zero]
  · intro h e
    obtain ⟨x, h1, k, hk, h2⟩ := gs_kernel e
    exact h2 (h x h1 k hk)
/-! ### determinants: sums over columns, without signs -/
def ls (l : List Nat) (f : Nat → F) : F := l.foldr (fun c s => f c + s) 0
theorem ls_nil (f : Nat → F) : ls [] f = 0 := rfl
theorem ls_cons (c : Nat) (l : List Nat) (f : Nat → F) : ls (c :: l) f = f c + ls l f := rfl
theorem ls_congr {l : List Nat} {f g : Nat → F} (h : ∀ c ∈ l, f c = g c) : ls l f = ls l g := by
  induction l with
  | nil => rfl
  | cons c l ih => rw [ls_cons, ls_cons, h c (List.mem_cons_self ..), ih (fun c hc => h c (List.mem_cons_of_mem _ hc))]
theorem ls_zero {l : List Nat} {f : Nat → F} (h : ∀ c ∈ l, f c = 0) : ls l f = 0 := by
  induction l with
  | nil => rfl
  | cons c l ih => rw [ls_cons, h c (List.mem_cons_self ..), ih (fun c hc => h c (List.mem_cons_of_mem _ hc)), add_zero]
theorem ls_add (l : List Nat) (f g : Nat → F) : ls l (fun c => f c + g c) = ls l f + ls l g := by
  induction l with
  | nil => exact (add_zero 0).symm
  | cons c l ih => rw [ls_cons, ls_cons, ls_cons, ih, add4]
theorem ls_mul (l : List Nat) (x : F) (f : Nat → F) : ls l (fun c => f c * x) = ls l f * x := by
  induction l with
  | nil => exact (zero_mul x).symm
  | cons c l ih => rw [ls_cons, ls_cons, ih, add_mul]
theorem ls_erase {l : List Nat} {c : Nat} (h : c ∈ l) (f : Nat → F) : ls (l.erase c) f = ls l f + f c := by
  induction l with
  | nil => cases h
  | cons d l ih =>
    rw [List.erase_cons]
    by_cases e : d = c
    · subst e
      rw [if_pos (beq_self_eq_true _), ls_cons, add_comm (f d), add_assoc, add_self, add_zero]
    · rw [if_neg (by simpa using e), ls_cons, ls_cons, ih (by rcases List.mem_cons.1 h with h | h; exact (e h.symm).elim; exact h), add_assoc]
theorem ls_swap (l m : List Nat) (f : Nat → Nat → F) : ls l (fun c => ls m (f c)) = ls m (fun d => ls l (fun c => f c d)) := by
  induction l with
  | nil => exact (ls_zero fun _ _ => rfl).symm
  | cons c l ih =>
    rw [ls_cons, ih, ← ls_add]
    rfl
/-- Sums over both, not the same. -/
theorem ls_off (l : List Nat) (f : Nat → Nat → F) : ls l (fun c => ls (l.erase c) (f c)) = ls l (fun c => ls l (f c)) + ls l (fun c => f c c) := by
  rw [← ls_add]
  exact ls_congr fun c hc => ls_erase hc _
theorem ls_sym (l : List Nat) (f : Nat → Nat → F) (h : ∀ c d, f c d = f d c) : ls l (fun c => ls l (f c)) = ls l (fun c => f c c) := by
  induction l with
  | nil => rfl
  | cons a l ih =>
    rw [ls_cons, ls_cons, ls_cons]
    have : ls l (fun c => ls (a :: l) (f c)) = ls l (f a) + ls l (fun c => f c c) := by
      rw [← ih, ← ls_add]
      exact ls_congr fun c _ => by rw [ls_cons, h c a]
    rw [this, add_assoc]
    congr 1
    rw [← add_assoc, add_self, zero_add]
/-- The determinant of rows, over some columns. -/
def D : List Nat → List (Nat → F) → F
  | _, [] => 1
  | l, r :: rs => ls l (fun c => r c * D (l.erase c) rs)
theorem D_cons (l : List Nat) (r : Nat → F) (rs : List (Nat → F)) : D l (r :: rs) = ls l (fun c => r c * D (l.erase c) rs) := rfl
theorem D_two (l : List Nat) (r s : Nat → F) (rs : List (Nat → F)) : D l (r :: s :: rs) = ls l (fun c => ls (l.erase c) (fun d => r c * s d * D ((l.erase c).erase d) rs)) := by
  rw [D_cons]
  refine ls_congr fun c _ => ?_
  rw [D_cons, mul_comm, ← ls_mul]
  exact ls_congr fun d _ => by ac_rfl
theorem D_swap2 (l : List Nat) (r s : Nat → F) (rs : List (Nat → F)) : D l (r :: s :: rs) = D l (s :: r :: rs) := by
  rw [D_two, D_two, ls_off, ls_off, ls_swap]
  congr 1
  · refine ls_congr fun d _ => ls_congr fun c _ => ?_
    rw [List.erase_comm d c]
    ac_rfl
  · exact ls_congr fun c _ => by ac_rfl
theorem D_same2 (l : List Nat) (r : Nat → F) (rs : List (Nat → F)) : D l (r :: r :: rs) = 0 := by
  rw [D_two, ls_off, ls_sym _ _ (fun c d => by rw [List.erase_comm d c]; ac_rfl), add_self]
theorem D_congr {r s : Nat → F} (rs : List (Nat → F)) (l : List Nat) (h : ∀ c ∈ l, r c = s c) : D l (r :: rs) = D l (s :: rs) :=
  ls_congr fun c hc => by rw [h c hc]
/-- Rows further back: what holds of the rest holds of all. -/
theorem D_pre {rs ss : List (Nat → F)} (h : ∀ l, D l rs = D l ss) : ∀ (p : List (Nat → F)) (l : List Nat), D l (p ++ rs) = D l (p ++ ss)
  | [], l => h l
  | r :: p, l => by
    rw [List.cons_append, List.cons_append, D_cons, D_cons]
    exact ls_congr fun c _ => by rw [D_pre h p]
/-- A row is brought to the front. -/
theorem D_front (l : List Nat) (r : Nat → F) : ∀ (p rs : List (Nat → F)), D l (p ++ r :: rs) = D l (r :: (p ++ rs))
  | [], rs => rfl
  | s :: p, rs => by
    rw [List.cons_append, List.cons_append, D_swap2 l r s, D_cons, D_cons]
    exact ls_congr fun c _ => by rw [D_front _ r p rs]
theorem D_lin (l : List Nat) (r s : Nat → F) (x : F) (rs : List (Nat → F)) : D l ((fun c => r c + s c * x) :: rs) = D l (r :: rs) + D l (s :: rs) * x := by
  rw [D_cons, D_cons, D_cons, ← ls_mul, ← ls_add]
  exact ls_congr fun c _ => by rw [add_mul]; congr 1; ac_rfl
theorem D_scl (l : List Nat) (r : Nat → F) (x : F) (rs : List (Nat → F)) : D l ((fun c => r c * x) :: rs) = D l (r :: rs) * x := by
  rw [D_cons, D_cons, ← ls_mul]
  exact ls_congr fun c _ => by ac_rfl
/-- Rows as a list. -/
def rws (n : Nat) (a : Mx) : List (Nat → F) := (List.range n).map a
/-- A permutation of the rows. -/
theorem D_perm {rs ss : List (Nat → F)} (h : rs.Perm ss) : ∀ l, D l rs = D l ss := by
  induction h with
  | nil => intro l; rfl
  | cons r _ ih => intro l; exact ls_congr fun c _ => by rw [ih]
  | swap r s rs => intro l; exact D_swap2 l s r rs
  | trans _ _ h1 h2 => intro l; rw [h1, h2]
/-- If the rows from the r-th on are 0 in more than r columns, it is 0. -/
theorem D_zero : ∀ (p : List (Nat → F)) (rs : List (Nat → F)) (l z : List Nat), z.Nodup → (∀ c ∈ z, c ∈ l) → p.length < z.length → z.length ≤ p.length + rs.length → (∀ r ∈ rs, ∀ c ∈ z, r c = 0) → l.Nodup → l.length = p.length + rs.length → D l (p ++ rs) = 0
  | r :: p, rs, l, z, hz, hzl, h1, h2, h0, hl, hn => by
    rw [List.cons_append, D_cons]
    refine ls_zero fun c hc => ?_
    simp only [List.length_cons] at h1 h2 hn
    have : D (l.erase c) (p ++ rs) = 0 := by
      by_cases hcz : c ∈ z
      · refine D_zero p rs (l.erase c) (z.erase c) (hz.erase c) (fun d hd => ?_) (by rw [List.length_erase_of_mem hcz]; omega) (by rw [List.length_erase_of_mem hcz]; omega) (fun r hr d hd => h0 r hr d (List.mem_of_mem_erase hd)) (hl.erase c) (by rw [List.length_erase_of_mem hc]; omega)
        have hd' := (hz.mem_erase_iff).1 hd
        exact (hl.mem_erase_iff).2 ⟨hd'.1, hzl d hd'.2⟩
      · by_cases hlen : z.length ≤ p.length + rs.length
        · exact D_zero p rs (l.erase c) z hz (fun d hd => (hl.mem_erase_iff).2 ⟨fun e => hcz (e ▸ hd), hzl d hd⟩) (by omega) hlen h0 (hl.erase c) (by rw [List.length_erase_of_mem hc]; omega)
        · exfalso
          have hsub : (c :: z).length ≤ l.length := List.Nodup.length_le_of_subset (List.nodup_cons.2 ⟨hcz, hz⟩) (by
            intro d hd
            rcases List.mem_cons.1 hd with rfl | hd
            · exact hc
            · exact hzl d hd)
          simp only [List.length_cons] at hsub
          omega
    rw [this, mul_zero]
  | [], rs, l, z, hz, hzl, h1, h2, h0, hl, hn => by
    match rs, z with
    | [], z => exact absurd (Nat.lt_of_lt_of_le h1 h2) (Nat.lt_irrefl _)
    | _ :: _, [] => simp at h1
    | r :: rs, c0 :: z =>
      show ls l _ = 0
      refine ls_zero fun c hc => ?_
      simp only [List.length_cons, List.length_nil] at hn
      by_cases e : c = c0
      · subst e
        rw [h0 r (List.mem_cons_self ..) c (List.mem_cons_self ..), zero_mul]
      · match rs with
        | [] =>
          exfalso
          have : l.length = 1 := by simpa using hn
          obtain ⟨d, rfl⟩ := List.length_eq_one_iff.1 this
          have h3 := List.mem_singleton.1 hc
          have h4 := List.mem_singleton.1 (hzl c0 (List.mem_cons_self ..))
          exact e (h3.trans h4.symm)
        | s :: rs =>
          have := D_zero [] (s :: rs) (l.erase c) [c0] (by simp) (fun d hd => by
            rw [List.mem_singleton.1 hd]
            exact (hl.mem_erase_iff).2 ⟨fun e' => e e'.symm, hzl c0 (List.mem_cons_self ..)⟩) (by simp) (by simp) (fun r hr d hd => by
            rw [List.mem_singleton.1 hd]
            exact h0 r (List.mem_cons_of_mem _ hr) c0 (List.mem_cons_self ..)) (hl.erase c) (by rw [List.length_erase_of_mem hc]; simp at hn ⊢; omega)
          rw [List.nil_append] at this
          rw [this, mul_zero]
  termination_by p rs => p.length + rs.length
/-! ### the determinant and Gauss' way -/
def rest (n : Nat) (a : Mx) (k : Nat) : List (Nat → F) := ((List.range n).erase k).map a
theorem D_row (n : Nat) (a : Mx) (k : Nat) (hk : k < n) (l : List Nat) : D l (rws n a) = D l (a k :: rest n a k) :=
  D_perm ((List.perm_cons_erase (List.mem_range.2 hk)).map a) l
theorem rest_congr {n : Nat} {a b : Mx} {k : Nat} (h : ∀ r, r < n → r ≠ k → a r = b r) : rest n a k = rest n b k :=
  List.map_congr_left fun r hr => by
    have := (List.nodup_range (n := n)).mem_erase_iff.1 hr
    exact h r (List.mem_range.1 this.2) this.1
theorem D_rscl (n : Nat) (a : Mx) (k : Nat) (c : F) (hk : k < n) (l : List Nat) : D l (rws n (scl a k c)) = D l (rws n a) * c := by
  rw [D_row n _ k hk, D_row n a k hk, rest_congr (b := a) (fun r _ hne => by funext j; exact if_neg hne), ← D_scl]
  exact D_congr _ _ fun j _ => if_pos rfl
theorem D_radr (n : Nat) (a : Mx) (i k : Nat) (c : F) (hi : i < n) (hk : k < n) (hne : i ≠ k) (l : List Nat) : D l (rws n (adr a i k c)) = D l (rws n a) := by
  have h1 : D l (a k :: rest n a i) = 0 := by
    have hm : a k ∈ rest n a i := List.mem_map.2 ⟨k, (List.nodup_range).mem_erase_iff.2 ⟨fun e => hne e.symm, List.mem_range.2 hk⟩, rfl⟩
    obtain ⟨s, t, hst⟩ := List.append_of_mem hm
    rw [hst]
    have hp : (a k :: (s ++ a k :: t)).Perm (a k :: a k :: (s ++ t)) := List.Perm.cons _ List.perm_middle
    rw [D_perm hp, D_same2]
  rw [D_row n _ i hi, D_row n a i hi, rest_congr (b := a) (fun r _ h => by funext j; exact if_neg h)]
  have h2 := D_lin l (a i) (a k) c (rest n a i)
  rw [h1, zero_mul, add_zero] at h2
  rw [← h2]
  exact D_congr _ _ fun j _ => if_pos rfl
theorem D_rswp (n : Nat) (a : Mx) (i k : Nat) (hi : i < n) (hk : k < n) (l : List Nat) : D l (rws n (swp a i k)) = D l (rws n a) := by
  refine D_perm ?_ l
  let sg : Nat → Nat := fun r => if r = i then k else if r = k then i else r
  have e : rws n (swp a i k) = ((List.range n).map sg).map a := by
    unfold rws
    rw [List.map_map]
    refine List.map_congr_left fun r _ => ?_
    show swp a i k r = a (sg r)
    unfold swp
    show _ = a (if r = i then k else if r = k then i else r)
    split
    · rfl
    · split <;> rfl
  rw [e]
  refine List.Perm.map a ?_
  have hsg : ∀ r, sg r = if r = i then k else if r = k then i else r := fun _ => rfl
  refine (List.perm_ext_iff_of_nodup ?_ List.nodup_range).2 fun x => ?_
  · rw [List.nodup_iff_pairwise_ne, List.pairwise_map]
    refine List.Pairwise.imp ?_ (List.nodup_iff_pairwise_ne.1 (List.nodup_range (n := n)))
    intro x y hxy exy
    rw [hsg, hsg] at exy
    split at exy <;> split at exy <;> (try split at exy) <;> (try split at exy) <;> omega
  · rw [List.mem_map, List.mem_range]
    constructor
    · rintro ⟨r, hr, rfl⟩
      have := List.mem_range.1 hr
      rw [hsg]
      split
      · exact hk
      · split <;> omega
    · intro hx
      refine ⟨sg x, List.mem_range.2 ?_, ?_⟩
      · rw [hsg]
        split
        · exact hk
        · split <;> omega
      · rw [hsg (sg x), hsg x]
        by_cases e1 : x = i
        · subst e1
          rw [if_pos rfl]
          by_cases e2 : k = x
          · rw [if_pos e2]; exact e2
          · rw [if_neg e2, if_pos rfl]
        · rw [if_neg e1]
          by_cases e2 : x = k
          · rw [if_pos e2, if_pos rfl, e2]
          · rw [if_neg e2, if_neg e1, if_neg e2]
theorem D_cln (n : Nat) (a : Mx) (k : Nat) (b : Mx) (hk : k < n) (l : List Nat) : ∀ r, r ≤ n → D l (rws n (cln a k b r)) = D l (rws n b)
  | 0, _ => rfl
  | r + 1, h => by
    have ih := D_cln n a k b hk l r (by omega)
    unfold cln
    by_cases e : r = k
    · rw [if_pos e, ih]
    · rw [if_neg e, D_radr n _ r k _ (by omega) hk e, ih]
theorem D_col {n k : Nat} {p q : Mx × Mx} (hk : k < n) (h : col n p k = some q) (l : List Nat) : D l (rws n q.1) = 0 ↔ D l (rws n p.1) = 0 := by
  unfold col at h
  obtain ⟨i, hi, rfl⟩ := Option.map_eq_some_iff.1 h
  obtain ⟨h1, h2, h3⟩ := piv_some hi
  show D l (rws n (cln _ k _ n)) = 0 ↔ _
  rw [D_cln n _ k _ hk l n (Nat.le_refl _), D_rscl n _ k _ hk, D_rswp n _ i k h2 hk, mul_eq_zero]
  exact ⟨fun h => h.elim id (fun e => (inv_ne h3 e).elim), .inl⟩
theorem D_gs {n : Nat} {p : Mx × Mx} (l : List Nat) : ∀ {k : Nat} {q : Mx × Mx}, k ≤ n → gs n p k = some q → (D l (rws n q.1) = 0 ↔ D l (rws n p.1) = 0)
  | 0, q, _, h => by injection h with h; subst h; exact Iff.rfl
  | k + 1, q, hk, h => by
    obtain ⟨m, hm, hq⟩ := Option.bind_eq_some_iff.1 h
    exact (D_col (by omega) hq l).trans (D_gs l (by omega) hm)
theorem D_unit (a : Mx) : ∀ (l : List Nat), l.Nodup → (∀ i ∈ l, ∀ j ∈ l, a i j = one_ i j) → D l (l.map a) = 1
  | [], _, _ => rfl
  | c :: l, hn, h => by
    have hc := List.nodup_cons.1 hn
    rw [List.map_cons, D_cons, ls_cons, h c (List.mem_cons_self ..) c (List.mem_cons_self ..), List.erase_cons_head]
    rw [ls_zero (fun d hd => by
      rw [h c (List.mem_cons_self ..) d (List.mem_cons_of_mem _ hd)]
      have : one_ c d = 0 := if_neg (fun e => hc.1 (by rw [e]; exact hd))
      rw [this, zero_mul])]
    rw [D_unit a l hc.2 (fun i hi j hj => h i (List.mem_cons_of_mem _ hi) j (List.mem_cons_of_mem _ hj)), add_zero]
    show (if c = c then (1 : F) else 0) * 1 = 1
    rw [if_pos rfl, mul_one]
/-- Gauss' way ends well just if the determinant is not 0. -/
theorem gs_det (n : Nat) (a : Mx) : gs n (a, one_) n ≠ none ↔ D (List.range n) (rws n a) ≠ 0 := by
  constructor
  · intro h e
    obtain ⟨q, hq⟩ := Option.ne_none_iff_exists'.1 h
    have h1 := (D_gs (List.range n) (Nat.le_refl n) hq).2 e
    obtain ⟨_, h2⟩ := gs_ok (Nat.le_refl n) hq
    have h3 := D_unit q.1 (List.range n) List.nodup_range (fun i hi j hj => h2 i j (List.mem_range.1 hi) (List.mem_range.1 hj))
    exact one_ne (h3.symm.trans h1)
  · intro h e
    obtain ⟨m, q, hm, hq, hz⟩ := gs_fails (Nat.le_refl n) e
    obtain ⟨_, h2⟩ := gs_ok (by omega) hq
    refine h ((D_gs (List.range n) (by omega) hq).1 ?_)
    have es : rws n q.1 = (List.range m).map q.1 ++ (List.range (n - m)).map (fun i => q.1 (m + i)) := by
      unfold rws
      conv => lhs; rw [show n = m + (n - m) from by omega]
      rw [List.range_add, List.map_append, List.map_map]
      rfl
    rw [es]
    refine D_zero _ _ _ (List.range (m + 1)) List.nodup_range (fun c hc => List.mem_range.2 (by have := List.mem_range.1 hc; omega)) (by simp) (by simp; omega) (fun r hr c hc => ?_) List.nodup_range (by simp; omega)
    obtain ⟨i, hi, rfl⟩ := List.mem_map.1 hr
    have hi' := List.mem_range.1 hi
    have hc' := List.mem_range.1 hc
    by_cases e : c = m
    · subst e
      exact hz _ (by omega) (by omega)
    · rw [h2 (m + i) c (by omega) (by omega)]
      exact if_neg (by omega)
/-! ### matrices as lists -/
def ent (a : List (List F)) : Mx := fun i j => (a.getD i []).getD j 0
def mat (n : Nat) (a : Mx) : List (List F) := (List.range n).map fun i => (List.range n).map (a i)
/-- A square matrix. -/
def Sq (n : Nat) (a : List (List F)) : Prop := a.length = n ∧ ∀ r ∈ a, r.length = n
theorem mat_sq (n : Nat) (a : Mx) : Sq n (mat n a) := ⟨by simp [mat], fun r hr => by obtain ⟨i, _, rfl⟩ := List.mem_map.1 hr; simp⟩
theorem list_getD {α : Type} (l : List α) (z : α) : (List.range l.length).map (fun i => l.getD i z) = l := by
  apply List.ext_getElem (by simp)
  intro i h1 h2
  simp [List.getD_eq_getElem?_getD, h2]
theorem Sq.mat {n : Nat} {a : List (List F)} (h : Sq n a) : F.mat n (ent a) = a := by
  obtain ⟨rfl, h2⟩ := h
  unfold F.mat
  conv => rhs; rw [← list_getD a []]
  refine List.map_congr_left fun i hi => ?_
  have hi' := List.mem_range.1 hi
  have hl : (a.getD i []).length = a.length := h2 _ (by simp [List.getD_eq_getElem?_getD, hi'])
  conv => rhs; rw [← list_getD (a.getD i []) 0, hl]
  rfl
theorem mat_ent (n : Nat) (a : Mx) (i j : Nat) (hi : i < n) (hj : j < n) : ent (mat n a) i j = a i j := by
  simp [ent, mat, List.getD_eq_getElem?_getD, hi, hj]
theorem mat_congr {n : Nat} {a b : Mx} (h : ∀ i j, i < n → j < n → a i j = b i j) : mat n a = mat n b :=
  List.map_congr_left fun i hi => List.map_congr_left fun j hj => h i j (List.mem_range.1 hi) (List.mem_range.1 hj)
/-- The determinant by the first row, as the document reckons it. -/
def detN : Nat → List (List F) → F
  | 0, _ => 1
  | n + 1, a => sm (n + 1) (fun k => ent a 0 k * detN n (a.tail.map (·.eraseIdx k)))
theorem ls_sm (l : List Nat) (f : Nat → F) : ls l f = sm l.length (fun k => f (l.getD k 0)) := by
  induction l with
  | nil => rfl
  | cons c l ih =>
    rw [ls_cons, List.length_cons, sm_first, ih]
    rfl
theorem erase_idx {l : List Nat} (hn : l.Nodup) (k : Nat) (hk : k < l.length) : l.erase (l.getD k 0) = l.eraseIdx k := by
  induction l generalizing k with
  | nil => exact absurd hk (Nat.not_lt_zero _)
  | cons c l ih =>
    have hc := List.nodup_cons.1 hn
    cases k with
    | zero => simp
    | succ k =>
      have hk' : k < l.length := by simpa using hk
      have hm : l.getD k 0 ∈ l := by simp [List.getD_eq_getElem?_getD, hk']
      show (c :: l).erase (l.getD k 0) = c :: l.eraseIdx k
      rw [List.erase_cons_tail (by simpa using fun e : c = l.getD k 0 => hc.1 (by rw [e]; exact hm)), ih hc.2 k hk']
theorem map_eraseIdx (s : Nat → F) : ∀ (l : List Nat) (k : Nat), (l.map s).eraseIdx k = (l.eraseIdx k).map s
  | [], _ => rfl
  | c :: l, 0 => rfl
  | c :: l, k + 1 => by
    show s c :: (l.map s).eraseIdx k = s c :: (l.eraseIdx k).map s
    rw [map_eraseIdx s l k]
theorem detN_D : ∀ (fs : List (Nat → F)) (l : List Nat), l.Nodup → l.length = fs.length → detN fs.length (fs.map fun r => l.map r) = D l fs
  | [], _, _, _ => rfl
  | r :: fs, l, hn, hl => by
    rw [D_cons, ls_sm, hl]
    show sm (fs.length + 1) _ = _
    refine sm_congr fun k hk => ?_
    have hk' : k < l.length := by rw [hl]; exact hk
    rw [← detN_D fs (l.erase (l.getD k 0)) (hn.erase _) (by rw [List.length_erase_of_mem (by simp [List.getD_eq_getElem?_getD, hk'])]; simp at hl; omega)]
    have e0 : ent ((r :: fs).map fun r => l.map r) 0 k = r (l.getD k 0) := by simp [ent, List.getD_eq_getElem?_getD, hk']
    rw [e0, erase_idx hn k hk']
    congr 2
    rw [List.map_cons, List.tail_cons, List.map_map]
    refine List.map_congr_left fun s _ => ?_
    show (l.map s).eraseIdx k = (l.eraseIdx k).map s
    exact map_eraseIdx s l k
theorem det_D {n : Nat} {a : List (List F)} (h : Sq n a) : detN n a = D (List.range n) (rws n (ent a)) := by
  have h1 := detN_D (rws n (ent a)) (List.range n) List.nodup_range (by simp [rws])
  have h2 : (rws n (ent a)).length = n := by simp [rws]
  have h3 : ((rws n (ent a)).map fun r => (List.range n).map r) = a := by
    unfold rws
    rw [List.map_map]
    exact h.mat
  rwa [h2, h3] at h1
end F
end Go.Proofs.Sh
