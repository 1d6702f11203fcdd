/- Plain: finite sums, polynomials as lists of bytes. -/
import Derived.Test.YtijeabhfddaoaaaM2
namespace Go.Proofs.Sh
namespace F
/-- The sum of f 0 .. f (n - 1). -/
def sm : Nat → (Nat → F) → F
  | 0, _ => 0
  | n + 1, f => sm n f + f n
theorem sm_succ (n : Nat) (f : Nat → F) : sm (n + 1) f = sm n f + f n := rfl
theorem sm_congr {n : Nat} {f g : Nat → F} (h : ∀ i, i < n → f i = g i) : sm n f = sm n g := by
  induction n with
  | zero => rfl
  | succ n ih => rw [sm_succ, sm_succ, ih (fun i hi => h i (by omega)), h n (by omega)]
theorem sm_zero {n : Nat} {f : Nat → F} (h : ∀ i, i < n → f i = 0) : sm n f = 0 := by
  induction n with
  | zero => rfl
  | succ n ih => rw [sm_succ, ih (fun i hi => h i (by omega)), h n (by omega), add_zero]
theorem add4 (a b c d : F) : a + b + (c + d) = a + c + (b + d) := by
  rw [add_assoc, add_assoc, ← add_assoc b c d, add_comm b c, add_assoc c b d]
theorem sm_add (n : Nat) (f g : Nat → F) : sm n (fun i => f i + g i) = sm n f + sm n g := by
  induction n with
  | zero => exact (add_zero 0).symm
  | succ n ih => rw [sm_succ, sm_succ, sm_succ, ih, add4]
theorem mul_sm (n : Nat) (c : F) (f : Nat → F) : c * sm n f = sm n (fun i => c * f i) := by
  induction n with
  | zero => exact mul_zero c
  | succ n ih => rw [sm_succ, sm_succ, mul_add, ih]
theorem sm_mul (n : Nat) (c : F) (f : Nat → F) : sm n f * c = sm n (fun i => f i * c) := by
  rw [mul_comm, mul_sm]
  exact sm_congr fun i _ => mul_comm _ _
theorem sm_first (n : Nat) (f : Nat → F) : sm (n + 1) f = f 0 + sm n (fun i => f (i + 1)) := by
  induction n with
  | zero => show (0 : F) + f 0 = f 0 + 0; rw [zero_add, add_zero]
  | succ n ih => rw [sm_succ, ih, sm_succ, add_assoc]
theorem sm_swap (n m : Nat) (f : Nat → Nat → F) : sm n (fun i => sm m (f i)) = sm m (fun j => sm n (fun i => f i j)) := by
  induction n with
  | zero => exact (sm_zero (fun _ _ => rfl)).symm
  | succ n ih => rw [sm_succ, ih, ← sm_add]; exact sm_congr fun j _ => rfl
theorem sm_one {n : Nat} {f : Nat → F} (k : Nat) (hk : k < n) (h : ∀ i, i < n → i ≠ k → f i = 0) : sm n f = f k := by
  induction n with
  | zero => omega
  | succ n ih =>
    rw [sm_succ]
    by_cases e : k = n
    · subst e
      rw [sm_zero (fun i hi => h i (by omega) (by omega)), zero_add]
    · rw [ih (by omega) (fun i hi hne => h i (by omega) hne), h n (by omega) (fun e' => e e'.symm), add_zero]
theorem sm_more {n m : Nat} {f : Nat → F} (hm : n ≤ m) (h : ∀ i, n ≤ i → i < m → f i = 0) : sm m f = sm n f := by
  induction m with
  | zero => obtain rfl : n = 0 := by omega
            rfl
  | succ m ih =>
    by_cases e : n = m + 1
    · rw [e]
    · rw [sm_succ, ih (by omega) (fun i h1 h2 => h i h1 (by omega)), h m (by omega) (by omega), add_zero]
theorem sm_append (n m : Nat) (f : Nat → F) : sm (n + m) f = sm n f + sm m (fun i => f (n + i)) := by
  induction m with
  | zero => exact (add_zero _).symm
  | succ m ih => rw [← Nat.add_assoc, sm_succ, ih, sm_succ, add_assoc]
theorem eq_of_add {a b : F} (h : a + b = 0) : a = b := by
  have : a + b + b = 0 + b := by rw [h]
  rwa [add_assoc, add_self, add_zero, zero_add] at this
theorem pw_succ (a : F) (n : Nat) : pw a (n + 1) = a * pw a n := rfl
theorem pw_zero (a : F) : pw a 0 = 1 := rfl
/-! ### polynomials -/
/-- Place k of a polynomial. -/
abbrev at_ (p : List F) (k : Nat) : F := p.getD k 0
theorem at_ge {p : List F} {k : Nat} (h : p.length ≤ k) : at_ p k = 0 := by
  show p.getD k 0 = 0
  rw [List.getD_eq_getElem?_getD, List.getElem?_eq_none h]; rfl
theorem ext_at {p q : List F} (hl : p.length = q.length) (h : ∀ k, k < p.length → at_ p k = at_ q k) : p = q := by
  apply List.ext_getElem hl
  intro k h1 h2
  have := h k h1
  simpa [at_, List.getD_eq_getElem?_getD, h1, h2] using this
/-- The value at x. -/
def ev (x : F) : List F → F
  | [] => 0
  | a :: p => a + ev x p * x
theorem ev_nil (x : F) : ev x [] = 0 := rfl
theorem ev_cons (x a : F) (p : List F) : ev x (a :: p) = a + ev x p * x := rfl
/-- The value at x, power by power. -/
theorem ev_sum (x : F) (p : List F) : ev x p = sm p.length (fun k => at_ p k * pw x k) := by
  induction p with
  | nil => rfl
  | cons a p ih =>
    rw [ev_cons, ih, List.length_cons, sm_first, sm_mul]
    congr 1
    · exact (mul_one a).symm
    · refine sm_congr fun i _ => ?_
      show at_ p i * pw x i * x = at_ p i * (x * pw x i)
      rw [mul_assoc, mul_comm (pw x i) x]
theorem ev_sum' (x : F) (p : List F) (n : Nat) (h : p.length ≤ n) : ev x p = sm n (fun k => at_ p k * pw x k) := by
  rw [ev_sum, sm_more h]
  intro i h1 _
  rw [at_ge h1, zero_mul]
theorem ev_append (x : F) (p q : List F) : ev x (p ++ q) = ev x p + ev x q * pw x p.length := by
  induction p with
  | nil => show ev x q = 0 + ev x q * 1; rw [mul_one, zero_add]
  | cons a p ih =>
    show a + ev x (p ++ q) * x = (a + ev x p * x) + ev x q * (x * pw x p.length)
    rw [ih, add_mul, add_assoc, mul_assoc, mul_comm (pw x p.length) x]
/-- A sum of polynomials: as long as the longer one. -/
def padd : List F → List F → List F
  | [], q => q
  | p, [] => p
  | a :: p, b :: q => (a + b) :: padd p q
theorem padd_nil (p : List F) : padd p [] = p := by cases p <;> rfl
theorem padd_len : ∀ (p q : List F), (padd p q).length = max p.length q.length
  | [], q => by show q.length = max 0 q.length; omega
  | a :: p, [] => by show (a :: p).length = max (a :: p).length 0; omega
  | a :: p, b :: q => by
    show (padd p q).length + 1 = max (p.length + 1) (q.length + 1)
    rw [padd_len p q]; omega
theorem padd_at : ∀ (p q : List F) (k : Nat), at_ (padd p q) k = at_ p k + at_ q k
  | [], q, k => by show at_ q k = at_ [] k + at_ q k; rw [at_ge (p := []) (Nat.zero_le _), zero_add]
  | a :: p, [], k => by show at_ (a :: p) k = at_ (a :: p) k + at_ [] k; rw [at_ge (p := []) (Nat.zero_le _), add_zero]
  | a :: p, b :: q, 0 => rfl
  | a :: p, b :: q, k + 1 => padd_at p q k
theorem padd_comm (p q : List F) : padd p q = padd q p :=
  ext_at (by rw [padd_len, padd_len, Nat.max_comm]) (fun k _ => by rw [padd_at, padd_at, add_comm])
theorem ev_padd (x : F) : ∀ p q : List F, ev x (padd p q) = ev x p + ev x q
  | [], q => by show ev x q = 0 + ev x q; rw [zero_add]
  | a :: p, [] => by show ev x (a :: p) = ev x (a :: p) + 0; rw [add_zero]
  | a :: p, b :: q => by
    show (a + b) + ev x (padd p q) * x = (a + ev x p * x) + (b + ev x q * x)
    rw [ev_padd x p q, add_mul, add4]
theorem at_set (p : List F) (k : Nat) (x : F) (h : k < p.length) (j : Nat) : at_ (p.set k x) j = if j = k then x else at_ p j := by
  simp only [at_, List.getD_eq_getElem?_getD, List.getElem?_set]
  by_cases e : k = j
  · subst e; simp [h]
  · rw [if_neg e, if_neg (fun e' => e e'.symm)]
theorem at_take (p : List F) (k j : Nat) : at_ (p.take k) j = if j < k then at_ p j else 0 := by
  simp only [at_, List.getD_eq_getElem?_getD, List.getElem?_take]
  split <;> rfl
theorem padd_set (l m : List F) (k : Nat) (hk : k < m.length) (hle : m.length ≤ l.length) :
    at_ (padd l (m.take k)) k = at_ l k ∧ (padd l (m.take k)).set k (at_ l k + at_ m k) = padd l (m.take (k + 1)) := by
  have hlen : (padd l (m.take k)).length = l.length := by rw [padd_len, List.length_take]; omega
  refine ⟨by rw [padd_at, at_take, if_neg (by omega), add_zero], ext_at ?_ fun j _ => ?_⟩
  · rw [List.length_set, hlen, padd_len, List.length_take]; omega
  · rw [at_set _ _ _ (by omega), padd_at, padd_at, at_take, at_take]
    by_cases e : j = k
    · subst e
      rw [if_pos rfl, if_pos (by omega)]
    · rw [if_neg e]
      by_cases e2 : j < k
      · rw [if_pos e2, if_pos (by omega)]
      · rw [if_neg e2, if_neg (by omega)]
/-- A multiple. -/
abbrev psc (c : F) (p : List F) : List F := p.map (· * c)
theorem at_map {g : F → F} (h0 : g 0 = 0) (p : List F) (k : Nat) : at_ (p.map g) k = g (at_ p k) := by
  simp only [at_, List.getD_eq_getElem?_getD, List.getElem?_map]
  cases p[k]? <;> simp [h0]
theorem psc_at (c : F) (p : List F) (k : Nat) : at_ (psc c p) k = at_ p k * c := at_map (zero_mul c) p k
theorem ev_psc (x c : F) (p : List F) : ev x (psc c p) = ev x p * c := by
  induction p with
  | nil => exact (zero_mul c).symm
  | cons a p ih =>
    show a * c + ev x (psc c p) * x = (a + ev x p * x) * c
    rw [ih, add_mul, mul_assoc, mul_assoc, mul_comm c x]
/-- The places of a product: sum of p_i * q_(k - i) over the i of the first n that are at most k. -/
def cf (p q : List F) (n k : Nat) : F := sm n (fun i => if i ≤ k then at_ p i * at_ q (k - i) else 0)
theorem cf_all (p q : List F) (n k : Nat) (h : p.length ≤ n) : cf p q n k = cf p q p.length k := by
  unfold cf
  refine sm_more h fun i h1 _ => ?_
  rw [at_ge h1, zero_mul]
  split <;> rfl
theorem cf_top (p q : List F) (n k : Nat) (h : k < n) : cf p q n k = sm (k + 1) (fun i => at_ p i * at_ q (k - i)) := by
  unfold cf
  rw [sm_more (n := k + 1) h (fun i h1 _ => if_neg (by omega))]
  exact sm_congr fun i hi => if_pos (by omega)
/-- A product. -/
def pmul (p q : List F) : List F := if p = [] ∨ q = [] then [] else (List.range (p.length + q.length - 1)).map (cf p q p.length)
theorem pmul_nil_l (q : List F) : pmul [] q = [] := if_pos (.inl rfl)
theorem pmul_nil_r (p : List F) : pmul p [] = [] := if_pos (.inr rfl)
theorem pmul_len {p q : List F} (hp : p ≠ []) (hq : q ≠ []) : (pmul p q).length = p.length + q.length - 1 := by
  unfold pmul
  rw [if_neg (by simp [hp, hq]), List.length_map, List.length_range]
theorem cf_big (p q : List F) (n k : Nat) (hn : n ≤ p.length) (h : p.length + q.length ≤ k + 1) : cf p q n k = 0 := by
  refine sm_zero fun i hi => ?_
  split
  · rw [at_ge (p := q) (by omega), mul_zero]
  · rfl
theorem pmul_at (p q : List F) (k : Nat) : at_ (pmul p q) k = cf p q p.length k := by
  by_cases hp : p = []
  · subst hp; rw [pmul_nil_l]; rfl
  by_cases hq : q = []
  · subst hq
    rw [pmul_nil_r, at_ge (p := []) (Nat.zero_le _)]
    refine (sm_zero fun i _ => ?_).symm
    rw [at_ge (p := []) (Nat.zero_le _), mul_zero]
    split <;> rfl
  have hp' := List.length_pos_iff.2 hp
  have hq' := List.length_pos_iff.2 hq
  unfold pmul
  rw [if_neg (by simp [hp, hq])]
  by_cases hk : k < p.length + q.length - 1
  · simp [at_, List.getD_eq_getElem?_getD, hk]
  · rw [at_ge (by simp; omega)]
    exact (cf_big p q _ k (Nat.le_refl _) (by omega)).symm
/-- Products, first place by first place. -/
theorem cf_cons (a : F) (p q : List F) (n k : Nat) : cf (a :: p) q (n + 1) k = a * at_ q k + (if k = 0 then 0 else cf p q n (k - 1)) := by
  unfold cf
  rw [sm_first, if_pos (Nat.zero_le _)]
  congr 1
  by_cases h : k = 0
  · rw [if_pos h]
    exact sm_zero fun i _ => if_neg (by omega)
  · rw [if_neg h]
    refine sm_congr fun i _ => ?_
    by_cases hi : i + 1 ≤ k
    · rw [if_pos hi, if_pos (by omega), show k - 1 - i = k - (i + 1) from by omega]; rfl
    · rw [if_neg hi, if_neg (by omega)]
theorem pmul_cons (a : F) (p q : List F) (hq : q ≠ []) : pmul (a :: p) q = padd (psc a q) (if p = [] then [] else 0 :: pmul p q) := by
  have hq' := List.length_pos_iff.2 hq
  apply ext_at
  · rw [pmul_len (by simp) hq, padd_len, List.length_map]
    by_cases hp : p = []
    · subst hp; simp
    · have hp' := List.length_pos_iff.2 hp
      rw [if_neg hp, List.length_cons, List.length_cons, pmul_len hp hq]; omega
  · intro k _
    rw [pmul_at, List.length_cons, cf_cons, padd_at, psc_at, mul_comm (at_ q k) a]
    congr 1
    by_cases hp : p = []
    · subst hp
      rw [if_pos rfl, at_ge (p := []) (Nat.zero_le _)]
      split <;> rfl
    · rw [if_neg hp]
      cases k with
      | zero => rfl
      | succ k =>
        rw [if_neg (by omega), Nat.add_sub_cancel]
        show _ = at_ (pmul p q) k
        rw [pmul_at]
theorem ev_pmul (x : F) (p q : List F) : ev x (pmul p q) = ev x p * ev x q := by
  by_cases hq : q = []
  · subst hq; rw [pmul_nil_r, ev_nil, mul_zero]
  induction p with
  | nil => rw [pmul_nil_l, ev_nil, zero_mul]
  | cons a p ih =>
    rw [pmul_cons a p q hq, ev_padd, ev_psc, ev_cons, add_mul, mul_comm (ev x q) a]
    congr 1
    by_cases hp : p = []
    · subst hp
      rw [if_pos rfl, ev_nil, zero_mul, zero_mul]
    · rw [if_neg hp, ev_cons, zero_add, ih, mul_assoc, mul_comm (ev x q) x, mul_assoc]
/-- A product as the code makes it: i rows, and j places of the next one. -/
def rowAt (p q : List F) (i j k : Nat) : F := cf p q i k + (if i ≤ k ∧ k < i + j then at_ p i * at_ q (k - i) else 0)
def rows (p q : List F) (i j : Nat) : List F := (List.range (p.length + q.length - 1)).map (rowAt p q i j)
theorem rows_len (p q : List F) (i j : Nat) : (rows p q i j).length = p.length + q.length - 1 := by simp [rows]
theorem rows_at (p q : List F) (i j k : Nat) (h : k < p.length + q.length - 1) : at_ (rows p q i j) k = rowAt p q i j k := by
  simp [rows, at_, List.getD_eq_getElem?_getD, h]
theorem rows_0 (p q : List F) : rows p q 0 0 = List.replicate (p.length + q.length - 1) 0 := by
  apply ext_at (by rw [rows_len, List.length_replicate])
  intro k hk
  rw [rows_len] at hk
  rw [rows_at _ _ _ _ _ hk]
  have : rowAt p q 0 0 k = 0 := by
    unfold rowAt
    rw [if_neg (by omega), add_zero]
    rfl
  rw [this]
  simp [at_, List.getD_eq_getElem?_getD, hk]
theorem rows_next (p q : List F) (i : Nat) : rows p q i q.length = rows p q (i + 1) 0 := by
  apply ext_at (by rw [rows_len, rows_len])
  intro k hk
  rw [rows_len] at hk
  rw [rows_at _ _ _ _ _ hk, rows_at _ _ _ _ _ hk]
  unfold rowAt
  rw [if_neg (c := i + 1 ≤ k ∧ k < i + 1 + 0) (by omega), add_zero]
  show _ = cf p q i k + (if i ≤ k then at_ p i * at_ q (k - i) else 0)
  congr 1
  by_cases h : i ≤ k
  · rw [if_pos h]
    by_cases h2 : k < i + q.length
    · rw [if_pos ⟨h, h2⟩]
    · rw [if_neg (by omega), at_ge (p := q) (by omega), mul_zero]
  · rw [if_neg h, if_neg (by omega)]
theorem rows_set (p q : List F) (i j : Nat) (hi : i < p.length) (hj : j < q.length) :
    (rows p q i j).set (i + j) (at_ (rows p q i j) (i + j) + at_ p i * at_ q j) = rows p q i (j + 1) := by
  apply ext_at (by rw [List.length_set, rows_len, rows_len])
  intro k hk
  rw [List.length_set, rows_len] at hk
  rw [at_set _ _ _ (by rw [rows_len]; omega), rows_at _ _ _ _ _ hk]
  by_cases e : k = i + j
  · subst e
    rw [if_pos rfl, rows_at _ _ _ _ _ hk, rows_at _ _ _ _ _ hk]
    unfold rowAt
    rw [if_neg (by omega), if_pos (by omega), add_zero, Nat.add_sub_cancel_left]
  · rw [if_neg e, rows_at _ _ _ _ _ hk]
    unfold rowAt
    congr 1
    by_cases h : i ≤ k ∧ k < i + j
    · rw [if_pos h, if_pos (by omega)]
    · rw [if_neg h, if_neg (by omega)]
theorem rows_all {p q : List F} (hp : p ≠ []) (hq : q ≠ []) : rows p q p.length 0 = pmul p q := by
  apply ext_at (by rw [rows_len, pmul_len hp hq])
  intro k hk
  rw [rows_len] at hk
  rw [rows_at _ _ _ _ _ hk, pmul_at]
  unfold rowAt
  rw [if_neg (by omega), add_zero]
/-- The quotient by x + c, from the top: the places of the quotient and the rest. -/
def qt (c : F) (p : List F) : List F := (List.range (p.length - 1)).map fun k => ev c (p.drop (k + 1))
theorem qt_len (c : F) (p : List F) : (qt c p).length = p.length - 1 := by simp [qt]
theorem qt_at (c : F) (p : List F) (k : Nat) : at_ (qt c p) k = ev c (p.drop (k + 1)) := by
  by_cases h : k < p.length - 1
  · simp [qt, at_, List.getD_eq_getElem?_getD, h]
  · rw [at_ge (by rw [qt_len]; omega), List.drop_eq_nil_of_le (by omega)]; rfl
/-- The quotient as the code makes it, from the top down to place k. -/
def qtTo (c : F) (p : List F) (k : Nat) : List F := (List.range (p.length - 1)).map fun j => if k ≤ j then ev c (p.drop (j + 1)) else 0
theorem qtTo_len (c : F) (p : List F) (k : Nat) : (qtTo c p k).length = p.length - 1 := by simp [qtTo]
theorem qtTo_at (c : F) (p : List F) (k j : Nat) (h : j < p.length - 1) : at_ (qtTo c p k) j = if k ≤ j then ev c (p.drop (j + 1)) else 0 := by
  simp [qtTo, at_, List.getD_eq_getElem?_getD, h]
theorem qtTo_start (c : F) (p : List F) : qtTo c p (p.length - 1) = List.replicate (p.length - 1) 0 := by
  apply ext_at (by rw [qtTo_len, List.length_replicate])
  intro k hk
  rw [qtTo_len] at hk
  rw [qtTo_at _ _ _ _ hk, if_neg (by omega)]
  simp [at_, List.getD_eq_getElem?_getD, hk]
theorem qtTo_set (c : F) (p : List F) (j : Nat) (h : j < p.length - 1) : (qtTo c p (j + 1)).set j (ev c (p.drop (j + 1))) = qtTo c p j := by
  apply ext_at (by rw [List.length_set, qtTo_len, qtTo_len])
  intro k hk
  rw [List.length_set, qtTo_len] at hk
  rw [at_set _ _ _ (by rw [qtTo_len]; omega), qtTo_at _ _ _ _ hk, qtTo_at _ _ _ _ hk]
  by_cases e : k = j
  · subst e
    rw [if_pos rfl, if_pos (Nat.le_refl _)]
  · rw [if_neg e]
    by_cases h2 : j ≤ k
    · rw [if_pos h2, if_pos (by omega)]
    · rw [if_neg h2, if_neg (by omega)]
theorem qtTo_0 (c : F) (p : List F) : qtTo c p 0 = qt c p := by
  unfold qtTo qt
  exact List.map_congr_left fun j _ => if_pos (Nat.zero_le _)
theorem drop_at (p : List F) (k : Nat) (h : k < p.length) : p.drop k = at_ p k :: p.drop (k + 1) := by
  rw [List.drop_eq_getElem_cons h]
  simp [at_, List.getD_eq_getElem?_getD, h]
theorem ev_drop (c : F) (p : List F) (k : Nat) : ev c (p.drop k) = at_ p k + ev c (p.drop (k + 1)) * c := by
  by_cases h : k < p.length
  · rw [drop_at p k h]; rfl
  · rw [List.drop_eq_nil_of_le (by omega), List.drop_eq_nil_of_le (by omega), at_ge (by omega), ev_nil, zero_mul, zero_add]
/-- p is its quotient times x + c and the rest: place by place. -/
theorem over_at (c : F) (p : List F) (k : Nat) : at_ p k = at_ (qt c p) k * c + (if k = 0 then ev c p else at_ (qt c p) (k - 1)) := by
  have h := ev_drop c p k
  rw [qt_at]
  have h2 : at_ p k = ev c (p.drop (k + 1)) * c + ev c (p.drop k) := by
    rw [h, add_comm (ev c (p.drop (k + 1)) * c), add_assoc, add_self, add_zero]
  rw [h2]
  congr 1
  cases k with
  | zero => rfl
  | succ k => rw [if_neg (by omega), Nat.add_sub_cancel, qt_at]
theorem mul_lin_at (q : List F) (c : F) (k : Nat) : at_ (pmul q [c, 1]) k = at_ q k * c + (if k = 0 then 0 else at_ q (k - 1)) := by
  rw [pmul_at]
  induction q generalizing k with
  | nil => show (0 : F) = _; rw [at_ge (p := []) (Nat.zero_le _), at_ge (p := []) (Nat.zero_le _), zero_mul, zero_add]; split <;> rfl
  | cons a q ih =>
    rw [List.length_cons, cf_cons]
    match k with
    | 0 => rfl
    | 1 =>
      rw [if_neg (by omega), if_neg (by omega), ih]
      show a * 1 + (at_ q 0 * c + 0) = at_ q 0 * c + a
      rw [mul_one, add_zero, add_comm]
    | k + 2 =>
      rw [if_neg (by omega), if_neg (by omega), show k + 2 - 1 = k + 1 from rfl, ih, if_neg (by omega)]
      show a * 0 + _ = _
      rw [mul_zero, zero_add]
      rfl
/-- The law of the division. -/
theorem over_back (c : F) (p : List F) (k : Nat) : at_ (padd (pmul (qt c p) [c, 1]) [ev c p]) k = at_ p k := by
  rw [padd_at, mul_lin_at, over_at c p k, add_assoc]
  congr 1
  cases k with
  | zero => show (0 : F) + ev c p = ev c p; rw [zero_add]
  | succ k =>
    rw [if_neg (by omega), if_neg (by omega), at_ge (p := [ev c p]) (by simp), add_zero]
/-- The polynomial that is 0 at xs. -/
def rt (xs : List F) : List F := xs.foldl (fun p c => pmul p [c, 1]) [1]
theorem rt_snoc (xs : List F) (c : F) : rt (xs ++ [c]) = pmul (rt xs) [c, 1] := by simp [rt]
theorem snoc_ind {α : Type} {P : List α → Prop} (h0 : P []) (h : ∀ l a, P l → P (l ++ [a])) : ∀ l, P l := by
  intro l
  rw [← List.reverse_reverse l]
  induction l.reverse with
  | nil => exact h0
  | cons a l ih => rw [List.reverse_cons]; exact h _ _ ih
theorem rt_len (xs : List F) : (rt xs).length = xs.length + 1 := by
  induction xs using snoc_ind with
  | h0 => rfl
  | h xs c ih =>
    rw [rt_snoc, pmul_len (fun h => by rw [h] at ih; simp at ih) (by simp), ih, List.length_append]; simp
theorem rt_ne (xs : List F) : rt xs ≠ [] := fun h => by have := rt_len xs; rw [h] at this; simp at this
theorem rt_top (xs : List F) : at_ (rt xs) xs.length = 1 := by
  induction xs using snoc_ind with
  | h0 => rfl
  | h xs c ih =>
    rw [rt_snoc, mul_lin_at, List.length_append]
    show at_ (rt xs) (xs.length + 1) * c + (if xs.length + 1 = 0 then 0 else at_ (rt xs) (xs.length + 1 - 1)) = 1
    rw [at_ge (by rw [rt_len]; omega), if_neg (by omega), Nat.add_sub_cancel, ih, zero_mul, zero_add]
theorem ev_lin (x c : F) : ev x [c, 1] = c + x := by
  show c + (1 + 0 * x) * x = c + x
  rw [zero_mul, add_zero, one_mul]
theorem ev_rt (x : F) (xs : List F) : ev x (rt xs) = 0 ↔ x ∈ xs := by
  induction xs using snoc_ind with
  | h0 =>
    have : ev x (rt []) = 1 := by show (1 : F) + 0 * x = 1; rw [zero_mul, add_zero]
    rw [this]
    simp [one_ne]
  | h xs c ih =>
    rw [rt_snoc, ev_pmul, ev_lin, mul_eq_zero, ih, add_eq_zero, List.mem_append, List.mem_singleton]
    exact ⟨fun h => h.imp id Eq.symm, fun h => h.imp id Eq.symm⟩
/-- The degree: the greatest place that is not 0. -/
def dg (p : List F) : Nat → Int
  | 0 => -1
  | n + 1 => if at_ p n = 0 then dg p n else (n : Int)
def deg (p : List F) : Int := dg p p.length
theorem dg_succ (p : List F) (n : Nat) : dg p (n + 1) = if at_ p n = 0 then dg p n else (n : Int) := rfl
theorem dg_bound (p : List F) : ∀ n, -1 ≤ dg p n ∧ dg p n < n
  | 0 => by show (-1 : Int) ≤ -1 ∧ (-1 : Int) < 0; omega
  | n + 1 => by
    have := dg_bound p n
    rw [dg_succ]
    split <;> omega
theorem deg_rt (xs : List F) : deg (rt xs) = xs.length := by
  unfold deg
  rw [rt_len, dg_succ, rt_top, if_neg one_ne]
theorem qt_rt (x : F) (xs : List F) : ev x (rt xs) = 0 ↔ x ∈ xs := ev_rt x xs
end F
end Go.Proofs.Sh
