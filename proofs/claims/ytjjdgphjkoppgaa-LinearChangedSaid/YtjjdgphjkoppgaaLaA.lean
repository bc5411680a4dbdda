/- Linear algebra over the field: kernels, spans, ranks. -/
import Derived.Test.YtjjdgphjkoppgaaFq
namespace Go.Proofs.Ytjjdgphjkoppgaa

abbrev FMat := Nat → Nat → Fq

/-- The product of two lists. -/
def dt (m : Nat) (u v : Nat → Fq) : Fq := sm m (fun j => u j * v j)
def Ker (n m : Nat) (X : FMat) (v : Nat → Fq) : Prop := ∀ i, i < n → dt m (X i) v = 0
def Span (n m : Nat) (X : FMat) (t : Nat → Fq) : Prop := ∃ y : Nat → Fq, ∀ j, j < m → t j = sm n (fun i => y i * X i j)
/-- A vector of V whose last element below m that is not 0 is a 1 at c. -/
def Lead (m : Nat) (V : (Nat → Fq) → Prop) (c : Nat) : Prop := ∃ v, V v ∧ v c = 1 ∧ ∀ j, c < j → j < m → v j = 0

theorem dt_congr {m : Nat} {u u' v v' : Nat → Fq} (h : ∀ j, j < m → u j = u' j) (h' : ∀ j, j < m → v j = v' j) : dt m u v = dt m u' v' :=
  sm_congr fun j hj => by rw [h j hj, h' j hj]
theorem dt_add (m : Nat) (u a b : Nat → Fq) : dt m u (fun j => a j + b j) = dt m u a + dt m u b := by
  unfold dt; rw [← sm_add]; exact sm_congr fun j _ => by grind
theorem dt_mul (m : Nat) (u a : Nat → Fq) (s : Fq) : dt m u (fun j => s * a j) = s * dt m u a := by
  unfold dt; rw [← sm_mul]; exact sm_congr fun j _ => by grind
theorem dt_comm (m : Nat) (u v : Nat → Fq) : dt m u v = dt m v u := sm_congr fun _ _ => Fin.mul_comm _ _
theorem dt_add_l (m : Nat) (u a b : Nat → Fq) : dt m (fun j => a j + b j) u = dt m a u + dt m b u := by
  rw [dt_comm, dt_add, dt_comm m u a, dt_comm m u b]
theorem dt_mul_l (m : Nat) (u a : Nat → Fq) (s : Fq) : dt m (fun j => s * a j) u = s * dt m a u := by
  rw [dt_comm, dt_mul, dt_comm]
theorem dt_sm (n m : Nat) (y : Nat → Fq) (X : FMat) (v : Nat → Fq) : dt m (fun j => sm n (fun i => y i * X i j)) v = sm n (fun i => y i * dt m (X i) v) := by
  unfold dt
  rw [show (fun j => sm n (fun i => y i * X i j) * v j) = fun j => sm n (fun i => y i * X i j * v j) from funext fun _ => (sm_mul_r n _ _).symm, sm_swap]
  refine sm_congr fun i _ => ?_
  rw [← sm_mul]; exact sm_congr fun j _ => by grind

theorem ker_add {n m : Nat} {X : FMat} {u v : Nat → Fq} (hu : Ker n m X u) (hv : Ker n m X v) : Ker n m X (fun j => u j + v j) := fun i hi => by
  rw [dt_add, hu i hi, hv i hi]; rfl
theorem ker_mul {n m : Nat} {X : FMat} {u : Nat → Fq} (s : Fq) (hu : Ker n m X u) : Ker n m X (fun j => s * u j) := fun i hi => by
  rw [dt_mul, hu i hi]; grind
theorem span_congr {n m : Nat} {X : FMat} {t t' : Nat → Fq} (h : Span n m X t) (e : ∀ j, j < m → t' j = t j) : Span n m X t' :=
  let ⟨y, hy⟩ := h; ⟨y, fun j hj => by rw [e j hj, hy j hj]⟩
theorem span_add {n m : Nat} {X : FMat} {t u : Nat → Fq} (h : Span n m X t) (k : Span n m X u) : Span n m X (fun j => t j + u j) :=
  let ⟨y, hy⟩ := h; let ⟨z, hz⟩ := k
  ⟨fun i => y i + z i, fun j hj => by
    show t j + u j = _
    rw [hy j hj, hz j hj, ← sm_add]; exact sm_congr fun i _ => by grind⟩
theorem span_mul {n m : Nat} {X : FMat} {t : Nat → Fq} (s : Fq) (h : Span n m X t) : Span n m X (fun j => s * t j) :=
  let ⟨y, hy⟩ := h
  ⟨fun i => s * y i, fun j hj => by
    show s * t j = _
    rw [hy j hj, ← sm_mul]; exact sm_congr fun i _ => by grind⟩
theorem span_zero (n m : Nat) (X : FMat) : Span n m X (fun _ => 0) := ⟨fun _ => 0, fun j _ => (sm_zero fun i _ => by grind).symm⟩
theorem span_row {n m : Nat} {X : FMat} {i : Nat} (hi : i < n) : Span n m X (X i) :=
  ⟨fun k => if k = i then 1 else 0, fun j _ => by
    rw [sm_one hi (fun k _ e => by show (if k = i then (1 : Fq) else 0) * X k j = 0; rw [if_neg e]; grind)]
    show _ = (if i = i then (1 : Fq) else 0) * X i j
    rw [if_pos rfl]; grind⟩
theorem span_sm {n m : Nat} {X : FMat} {y : Nat → Fq} {Y : FMat} : ∀ {k : Nat}, (∀ i, i < k → Span n m X (Y i)) → Span n m X (fun j => sm k (fun i => y i * Y i j))
  | 0, _ => span_zero n m X
  | k + 1, h => span_add (span_sm (fun i hi => h i (by omega))) (span_mul (y k) (h k (by omega)))
theorem span_trans {n n' m : Nat} {X Y : FMat} {t : Nat → Fq} (h : Span n' m Y t) (hY : ∀ i, i < n' → Span n m X (Y i)) : Span n m X t :=
  let ⟨_, hy⟩ := h; span_congr (span_sm hY) hy
theorem span_ker {n m : Nat} {X : FMat} {t v : Nat → Fq} (h : Span n m X t) (hv : Ker n m X v) : dt m t v = 0 := by
  obtain ⟨y, hy⟩ := h
  rw [dt_congr hy (fun _ _ => rfl), dt_sm]
  exact sm_zero fun i hi => by rw [hv i hi]; grind

/-! One step of a reduction. -/

/-- The state of a reduction of X0 after the first c columns: the rows X, and the pivots' columns p below r. -/
structure Red (n m : Nat) (X0 X : FMat) (r : Nat) (p : Nat → Nat) (c : Nat) : Prop where
  rn : r ≤ n
  ker : ∀ v, Ker n m X v ↔ Ker n m X0 v
  span : ∀ i, i < n → Span n m X0 (X i)
  pc : ∀ k, k < r → p k < c
  mono : ∀ k l, k < l → l < r → p k < p l
  one : ∀ k, k < r → X k (p k) = 1
  zero : ∀ k i, k < r → i < n → i ≠ k → X i (p k) = 0
  low : ∀ i j, r ≤ i → i < n → j < c → X i j = 0
  left : ∀ k j, k < r → j < p k → X k j = 0

theorem red_start (n m : Nat) (X : FMat) (p : Nat → Nat) : Red n m X X 0 p 0 :=
  ⟨Nat.zero_le _, fun _ => Iff.rfl, fun _ hi => span_row hi, fun _ h => by omega, fun _ _ _ h => by omega, fun _ h => by omega, fun _ _ h => by omega, fun _ _ _ _ h => by omega, fun _ _ h => by omega⟩

theorem red_none {n m : Nat} {X0 X : FMat} {r : Nat} {p : Nat → Nat} {c : Nat} (h : Red n m X0 X r p c) (h0 : ∀ i, r ≤ i → i < n → X i c = 0) : Red n m X0 X r p (c + 1) :=
  { h with
    pc := fun k hk => Nat.lt_succ_of_lt (h.pc k hk)
    low := fun i j h1 h2 h3 => by
      by_cases e : j = c
      · rw [e]; exact h0 i h1 h2
      · exact h.low i j h1 h2 (by omega) }

/-- The rows behind a step at the row k, by s, the inverse of its element. -/
def stepF (X : FMat) (r c k : Nat) (s : Fq) : FMat := fun i j =>
  let X' : FMat := fun i j => if i = r then X k j else if i = k then X r j else X i j
  if i = r then X k j * s else X' i j - X' i c * (X k j * s)

theorem stepF_r (X : FMat) (r c k : Nat) (s : Fq) (j : Nat) : stepF X r c k s r j = X k j * s := by unfold stepF; rw [if_pos rfl]
theorem stepF_k (X : FMat) (r c k : Nat) (s : Fq) (j : Nat) (h : k ≠ r) : stepF X r c k s k j = X r j - X r c * (X k j * s) := by
  unfold stepF; simp only [if_neg h, if_true]
theorem stepF_o (X : FMat) (r c k : Nat) (s : Fq) (i j : Nat) (h : i ≠ r) (h' : i ≠ k) : stepF X r c k s i j = X i j - X i c * (X k j * s) := by
  unfold stepF; simp only [if_neg h, if_neg h']

theorem red_step {n m : Nat} {X0 X : FMat} {r : Nat} {p : Nat → Nat} {c k : Nat} {s : Fq} (h : Red n m X0 X r p c) (hrk : r ≤ k) (hk : k < n) (hs : s * X k c = 1) (hp : p r = c) :
    Red n m X0 (stepF X r c k s) (r + 1) p (c + 1) := by
  have hrn : r < n := by omega
  have hkc : X k c * s = 1 := by rw [Fin.mul_comm]; exact hs
  refine ⟨by omega, fun v => Iff.trans ?_ (h.ker v), ?_, ?_, ?_, ?_, ?_, ?_, ?_⟩
  · have row : dt m (stepF X r c k s r) v = s * dt m (X k) v := by
      rw [dt_congr (u' := fun j => s * X k j) (fun j _ => by rw [stepF_r]; exact Fin.mul_comm _ _) (fun _ _ => rfl), dt_mul_l]
    have rowk : k ≠ r → dt m (stepF X r c k s k) v = dt m (X r) v + (- X r c) * (s * dt m (X k) v) := fun hne => by
      rw [dt_congr (u' := fun j => X r j + (- X r c) * (s * X k j)) (fun j _ => by rw [stepF_k _ _ _ _ _ _ hne]; grind) (fun _ _ => rfl), dt_add_l, dt_mul_l, dt_mul_l]
    have rowo : ∀ i, i ≠ r → i ≠ k → dt m (stepF X r c k s i) v = dt m (X i) v + (- X i c) * (s * dt m (X k) v) := fun i h1 h2 => by
      rw [dt_congr (u' := fun j => X i j + (- X i c) * (s * X k j)) (fun j _ => by rw [stepF_o _ _ _ _ _ _ _ h1 h2]; grind) (fun _ _ => rfl), dt_add_l, dt_mul_l, dt_mul_l]
    constructor
    · intro hv
      have h1 := hv r hrn
      rw [row] at h1
      have hk0 : dt m (X k) v = 0 := by
        have : X k c * (s * dt m (X k) v) = 0 := by rw [h1]; grind
        grind
      intro i hi
      by_cases e1 : i = k
      · rw [e1]; exact hk0
      · by_cases e2 : i = r
        · rw [e2]
          have := hv k hk
          rw [rowk (fun e => e1 (by rw [e2, e])), hk0] at this; grind
        · have := hv i hi
          rw [rowo i e2 e1, hk0] at this; grind
    · intro hv i hi
      by_cases e2 : i = r
      · rw [e2, row, hv k hk]; grind
      · by_cases e1 : i = k
        · rw [e1, rowk (fun e => e2 (by rw [e1, e])), hv k hk, hv r hrn]; grind
        · rw [rowo i e2 e1, hv k hk, hv i hi]; grind
  · intro i hi
    have hkS : Span n m X0 (fun j => s * X k j) := span_mul s (h.span k hk)
    by_cases e2 : i = r
    · exact span_congr hkS fun j _ => by rw [e2, stepF_r]; exact Fin.mul_comm _ _
    · by_cases e1 : i = k
      · exact span_congr (span_add (h.span r hrn) (span_mul (- X r c) hkS)) fun j _ => by rw [e1, stepF_k _ _ _ _ _ _ (fun e => e2 (by rw [e1, e]))]; grind
      · exact span_congr (span_add (h.span i hi) (span_mul (- X i c) hkS)) fun j _ => by rw [stepF_o _ _ _ _ _ _ _ e2 e1]; grind
  · intro l hl
    by_cases e : l = r
    · rw [e, hp]; omega
    · have := h.pc l (by omega); omega
  · intro l l' h1 h2
    by_cases e : l' = r
    · rw [e, hp]; exact h.pc l (by omega)
    · exact h.mono l l' h1 (by omega)
  · intro l hl
    by_cases e : l = r
    · rw [e, hp, stepF_r]; exact hkc
    · have hpl := h.pc l (by omega)
      rw [stepF_o _ _ _ _ _ _ _ e (by omega), h.one l (by omega), h.low k _ hrk hk hpl]; grind
  · intro l i hl hi hne
    by_cases e : l = r
    · rw [e, hp]
      by_cases e1 : i = k
      · rw [e1, stepF_k _ _ _ _ _ _ (fun e' => hne (by rw [e1, e', e])), hkc]; grind
      · rw [stepF_o _ _ _ _ _ _ _ (fun e' => hne (by rw [e', e])) e1, hkc]; grind
    · have hpl := h.pc l (by omega)
      by_cases e2 : i = r
      · rw [e2, stepF_r, h.low k _ hrk hk hpl]; grind
      · by_cases e1 : i = k
        · rw [e1, stepF_k _ _ _ _ _ _ (fun e => e2 (by rw [e1, e])), h.low k _ hrk hk hpl, h.low r _ (Nat.le_refl _) hrn hpl]; grind
        · rw [stepF_o _ _ _ _ _ _ _ e2 e1, h.low k _ hrk hk hpl, h.zero l i (by omega) hi hne]; grind
  · intro i j h1 h2 h3
    have e2 : i ≠ r := by omega
    by_cases ej : j = c
    · rw [ej]
      by_cases e1 : i = k
      · rw [e1, stepF_k _ _ _ _ _ _ (by omega), hkc]; grind
      · rw [stepF_o _ _ _ _ _ _ _ e2 e1, hkc]; grind
    · have hj : j < c := by omega
      by_cases e1 : i = k
      · rw [e1, stepF_k _ _ _ _ _ _ (by omega), h.low k _ hrk hk hj, h.low r _ (Nat.le_refl _) hrn hj]; grind
      · rw [stepF_o _ _ _ _ _ _ _ e2 e1, h.low k _ hrk hk hj, h.low i _ (by omega) h2 hj]; grind
  · intro l j hl hj
    by_cases e : l = r
    · subst e
      rw [stepF_r, h.low k j hrk hk (by omega)]; grind
    · have hpl := h.pc l (by omega)
      rw [stepF_o _ _ _ _ _ _ _ e (by omega), h.left l j (by omega) hj, h.low k j hrk hk (by omega)]; grind

/-! What a reduction says. -/

/-- A sum over the pivots alone. -/
theorem sm_pivots {m r : Nat} {p : Nat → Nat} {f : Nat → Fq} (hp : ∀ k, k < r → p k < m) (hmono : ∀ k l, k < l → l < r → p k < p l) (h0 : ∀ j, j < m → (∀ k, k < r → p k ≠ j) → f j = 0) :
    sm m f = sm r (fun k => f (p k)) := by
  induction r generalizing f with
  | zero => exact sm_zero fun j hj => h0 j hj (fun k hk => by omega)
  | succ r ih =>
    have hne : ∀ k, k < r → p k ≠ p r := fun k hk => Nat.ne_of_lt (hmono k r hk (by omega))
    have e1 : sm m f = sm m (fun j => if j = p r then 0 else f j) + sm m (fun j => if j = p r then f j else 0) := by
      rw [← sm_add]; refine sm_congr fun j _ => ?_
      by_cases e : j = p r
      · rw [if_pos e, if_pos e]; grind
      · rw [if_neg e, if_neg e]; grind
    rw [e1, ih (f := fun j => if j = p r then 0 else f j) (fun k hk => hp k (by omega)) (fun k l h1 h2 => hmono k l h1 (by omega)) (fun j hj hk => by
      by_cases e : j = p r
      · show (if j = p r then 0 else f j) = 0
        rw [if_pos e]
      · show (if j = p r then 0 else f j) = 0
        rw [if_neg e]
        exact h0 j hj (fun k hk' => by
          by_cases ek : k = r
          · rw [ek]; exact fun e' => e e'.symm
          · exact hk k (by omega))), sm_one (k := p r) (hp r (by omega)) (fun j _ e => by show (if j = p r then f j else 0) = 0; rw [if_neg e])]
    show _ = sm r _ + f (p r)
    congr 1
    · exact sm_congr fun k hk => by show (if p k = p r then 0 else f (p k)) = f (p k); rw [if_neg (hne k hk)]
    · show (if p r = p r then f (p r) else 0) = _
      rw [if_pos rfl]

theorem pivot_dec (r : Nat) (p : Nat → Nat) (j : Nat) : (∃ k, k < r ∧ p k = j) ∨ (∀ k, k < r → p k ≠ j) := by
  by_cases h : ∃ k, k < r ∧ p k = j
  · exact .inl h
  · exact .inr fun k hk e => h ⟨k, hk, e⟩

/-- A row's product with a vector: the pivot's element, and those at the free columns. -/
theorem red_row {n m : Nat} {X0 X : FMat} {r : Nat} {p : Nat → Nat} {c : Nat} (h : Red n m X0 X r p c) (hc : c ≤ m) {k : Nat} (hk : k < r) (v : Nat → Fq) :
    dt m (X k) v = v (p k) + sm m (fun j => if j = p k then 0 else X k j * v j) := by
  have e1 : dt m (X k) v = sm m (fun j => if j = p k then X k j * v j else 0) + sm m (fun j => if j = p k then 0 else X k j * v j) := by
    unfold dt; rw [← sm_add]; refine sm_congr fun j _ => ?_
    by_cases e : j = p k
    · rw [if_pos e, if_pos e]; grind
    · rw [if_neg e, if_neg e]; grind
  have hpm : p k < m := Nat.lt_of_lt_of_le (h.pc k hk) hc
  rw [e1, sm_one (k := p k) hpm (fun j _ e => by show (if j = p k then X k j * v j else 0) = 0; rw [if_neg e])]
  show (if p k = p k then X k (p k) * v (p k) else 0) + _ = _
  rw [if_pos rfl, h.one k hk]; grind

/-- A pivot's column is not the last one of any vector of the kernel. -/
theorem red_pivot {n m : Nat} {X0 X : FMat} {r : Nat} {p : Nat → Nat} {c : Nat} (h : Red n m X0 X r p c) (hc : c ≤ m) {k : Nat} (hk : k < r) : ¬ Lead m (Ker n m X0) (p k) := by
  rintro ⟨v, hv, h1, h0⟩
  have hz := (h.ker v).2 hv k (Nat.lt_of_lt_of_le hk h.rn)
  rw [red_row h hc hk, h1, sm_zero] at hz
  · exact absurd hz (by decide)
  · intro j hj
    show (if j = p k then 0 else X k j * v j) = 0
    by_cases e : j = p k
    · rw [if_pos e]
    · rw [if_neg e]
      by_cases hlt : j < p k
      · rw [h.left k j hk hlt]; grind
      · rw [h0 j (by omega) hj]; grind

/-- The vector with 1 at a free column, 0 at the others. -/
def freeV (X : FMat) (r : Nat) (p : Nat → Nat) (c : Nat) : Nat → Fq := fun j =>
  if j = c then 1 else sm r (fun k => if p k = j then - X k c else 0)

theorem freeV_c (X : FMat) (r : Nat) (p : Nat → Nat) (c : Nat) : freeV X r p c c = 1 := by unfold freeV; rw [if_pos rfl]
theorem freeV_p {X : FMat} {r : Nat} {p : Nat → Nat} {c k : Nat} (hmono : ∀ k l, k < l → l < r → p k < p l) (hk : k < r) (hne : p k ≠ c) : freeV X r p c (p k) = - X k c := by
  unfold freeV
  rw [if_neg hne, sm_one hk (fun l hl e => by
    rw [if_neg]
    intro e'
    rcases Nat.lt_or_gt_of_ne e with h | h
    · have := hmono l k h hk; omega
    · have := hmono k l h hl; omega), if_pos rfl]
theorem freeV_o {X : FMat} {r : Nat} {p : Nat → Nat} {c j : Nat} (hne : j ≠ c) (h : ∀ k, k < r → p k ≠ j) : freeV X r p c j = 0 := by
  unfold freeV
  rw [if_neg hne]
  exact sm_zero fun k hk => by rw [if_neg (h k hk)]

theorem freeV_ker {n m : Nat} {X0 X : FMat} {r : Nat} {p : Nat → Nat} {C : Nat} (h : Red n m X0 X r p C) (hC : C ≤ m) {c : Nat} (hc : c < m) (hf : ∀ k, k < r → p k ≠ c) (hz : ∀ i, r ≤ i → i < n → X i c = 0) : Ker n m X0 (freeV X r p c) := by
  refine (h.ker _).1 fun i hi => ?_
  have hpm : ∀ k, k < r → p k < m := fun k hk => Nat.lt_of_lt_of_le (h.pc k hk) hC
  by_cases hir : i < r
  · rw [red_row h hC hir, freeV_p h.mono hir (hf i hir), sm_one (k := c) hc (fun j hj e => ?_)]
    · rw [if_neg (fun e => hf i hir e.symm), freeV_c]; grind
    · show (if j = p i then 0 else X i j * freeV X r p c j) = 0
      by_cases e2 : j = p i
      · rw [if_pos e2]
      · rw [if_neg e2]
        rcases pivot_dec r p j with ⟨k, hk, rfl⟩ | hno
        · rw [h.zero k i hk hi (fun e3 => e2 (by rw [e3]))]; grind
        · rw [freeV_o e hno]; grind
  · exact sm_zero fun j hj => by
      by_cases e : j = c
      · rw [e, hz i (by omega) hi]; grind
      · rcases pivot_dec r p j with ⟨k, hk, rfl⟩ | hno
        · rw [h.zero k i hk hi (by omega)]; grind
        · rw [freeV_o e hno]; grind

theorem red_free {n m : Nat} {X0 X : FMat} {r : Nat} {p : Nat → Nat} {C : Nat} (h : Red n m X0 X r p C) (hC : C ≤ m) {c : Nat} (hc : c < C) (hf : ∀ k, k < r → p k ≠ c) : Lead m (Ker n m X0) c := by
  refine ⟨freeV X r p c, freeV_ker h hC (by omega) hf (fun i h1 h2 => h.low i c h1 h2 hc), freeV_c _ _ _ _, fun j h1 h2 => ?_⟩
  rcases pivot_dec r p j with ⟨k, hk, rfl⟩ | hno
  · rw [freeV_p h.mono hk (by omega), h.left k c hk h1]; grind
  · exact freeV_o (by omega) hno

end Go.Proofs.Ytjjdgphjkoppgaa
