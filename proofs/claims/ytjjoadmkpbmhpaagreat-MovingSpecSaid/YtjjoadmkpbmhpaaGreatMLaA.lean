/- Linear algebra over the field: kernels, spans, ranks. Ranks: how many columns do not lead a vector of a kernel. The reference of package linear: Turned. The reference of package linear: Rank and Separate. The reference of package linear: Separate. The reductions of the program and of the reference, in the field. -/
import Derived.Test.YtjjoadmkpbmhpaaGreatMJac
import Derived.Test.YtjjoadmkpbmhpaaGreatMDeaC
namespace Go.Proofs.YtjjoadmkpbmhpaaGreat

abbrev FMat := Nat → Nat → Fq

/-- The product of two lists. -/
def dt (m : Nat) (u v : Nat → Fq) : Fq := sm m (fun j => u j * v j)
def Ker (n m : Nat) (X : FMat) (v : Nat → Fq) : Prop := ∀ i, i < n → dt m (X i) v = 0
def Span (n m : Nat) (X : FMat) (t : Nat → Fq) : Prop := ∃ y : Nat → Fq, ∀ j, j < m → t j = sm n (fun i => y i * X i j)
theorem dt_congr {m : Nat} {u u' v v' : Nat → Fq} (h : ∀ j, j < m → u j = u' j) (h' : ∀ j, j < m → v j = v' j) : dt m u v = dt m u' v' :=
  sm_congr fun j hj => by rw [h j hj, h' j hj]
theorem dt_add (m : Nat) (u a b : Nat → Fq) : dt m u (fun j => a j + b j) = dt m u a + dt m u b := by
  unfold dt; rw [← sm_add]; exact sm_congr fun j _ => by grind
theorem dt_mul (m : Nat) (u a : Nat → Fq) (s : Fq) : dt m u (fun j => s * a j) = s * dt m u a := by
  unfold dt; rw [← sm_mul]; exact sm_congr fun j _ => by grind
theorem dt_comm (m : Nat) (u v : Nat → Fq) : dt m u v = dt m v u := sm_congr fun _ _ => Fin.mul_comm _ _
theorem dt_add_l (m : Nat) (u a b : Nat → Fq) : dt m (fun j => a j + b j) u = dt m a u + dt m b u := by
  rw [dt_comm, dt_add, dt_comm m u a, dt_comm m u b]
theorem dt_mul_l (m : Nat) (u a : Nat → Fq) (s : Fq) : dt m (fun j => s * a j) u = s * dt m a u := by
  rw [dt_comm, dt_mul, dt_comm]
theorem dt_sm (n m : Nat) (y : Nat → Fq) (X : FMat) (v : Nat → Fq) : dt m (fun j => sm n (fun i => y i * X i j)) v = sm n (fun i => y i * dt m (X i) v) := by
  unfold dt
  rw [show (fun j => sm n (fun i => y i * X i j) * v j) = fun j => sm n (fun i => y i * X i j * v j) from funext fun _ => (sm_mul_r n _ _).symm, sm_swap]
  refine sm_congr fun i _ => ?_
  rw [← sm_mul]; exact sm_congr fun j _ => by grind

theorem span_congr {n m : Nat} {X : FMat} {t t' : Nat → Fq} (h : Span n m X t) (e : ∀ j, j < m → t' j = t j) : Span n m X t' :=
  let ⟨y, hy⟩ := h; ⟨y, fun j hj => by rw [e j hj, hy j hj]⟩
theorem span_add {n m : Nat} {X : FMat} {t u : Nat → Fq} (h : Span n m X t) (k : Span n m X u) : Span n m X (fun j => t j + u j) :=
  let ⟨y, hy⟩ := h; let ⟨z, hz⟩ := k
  ⟨fun i => y i + z i, fun j hj => by
    show t j + u j = _
    rw [hy j hj, hz j hj, ← sm_add]; exact sm_congr fun i _ => by grind⟩
theorem span_mul {n m : Nat} {X : FMat} {t : Nat → Fq} (s : Fq) (h : Span n m X t) : Span n m X (fun j => s * t j) :=
  let ⟨y, hy⟩ := h
  ⟨fun i => s * y i, fun j hj => by
    show s * t j = _
    rw [hy j hj, ← sm_mul]; exact sm_congr fun i _ => by grind⟩
theorem span_row {n m : Nat} {X : FMat} {i : Nat} (hi : i < n) : Span n m X (X i) :=
  ⟨fun k => if k = i then 1 else 0, fun j _ => by
    rw [sm_one hi (fun k _ e => by show (if k = i then (1 : Fq) else 0) * X k j = 0; rw [if_neg e]; grind)]
    show _ = (if i = i then (1 : Fq) else 0) * X i j
    rw [if_pos rfl]; grind⟩
/-! One step of a reduction. -/

/-- The state of a reduction of X0 after the first c columns: the rows X, and the pivots' columns p below r. -/
structure Red (n m : Nat) (X0 X : FMat) (r : Nat) (p : Nat → Nat) (c : Nat) : Prop where
  rn : r ≤ n
  ker : ∀ v, Ker n m X v ↔ Ker n m X0 v
  span : ∀ i, i < n → Span n m X0 (X i)
  pc : ∀ k, k < r → p k < c
  mono : ∀ k l, k < l → l < r → p k < p l
  one : ∀ k, k < r → X k (p k) = 1
  zero : ∀ k i, k < r → i < n → i ≠ k → X i (p k) = 0
  low : ∀ i j, r ≤ i → i < n → j < c → X i j = 0
  left : ∀ k j, k < r → j < p k → X k j = 0

theorem red_start (n m : Nat) (X : FMat) (p : Nat → Nat) : Red n m X X 0 p 0 :=
  ⟨Nat.zero_le _, fun _ => Iff.rfl, fun _ hi => span_row hi, fun _ h => by omega, fun _ _ _ h => by omega, fun _ h => by omega, fun _ _ h => by omega, fun _ _ _ _ h => by omega, fun _ _ h => by omega⟩

theorem red_none {n m : Nat} {X0 X : FMat} {r : Nat} {p : Nat → Nat} {c : Nat} (h : Red n m X0 X r p c) (h0 : ∀ i, r ≤ i → i < n → X i c = 0) : Red n m X0 X r p (c + 1) :=
  { h with
    pc := fun k hk => Nat.lt_succ_of_lt (h.pc k hk)
    low := fun i j h1 h2 h3 => by
      by_cases e : j = c
      · rw [e]; exact h0 i h1 h2
      · exact h.low i j h1 h2 (by omega) }

/-- The rows behind a step at the row k, by s, the inverse of its element. -/
def stepF (X : FMat) (r c k : Nat) (s : Fq) : FMat := fun i j =>
  let X' : FMat := fun i j => if i = r then X k j else if i = k then X r j else X i j
  if i = r then X k j * s else X' i j - X' i c * (X k j * s)

theorem stepF_r (X : FMat) (r c k : Nat) (s : Fq) (j : Nat) : stepF X r c k s r j = X k j * s := by unfold stepF; rw [if_pos rfl]
theorem stepF_k (X : FMat) (r c k : Nat) (s : Fq) (j : Nat) (h : k ≠ r) : stepF X r c k s k j = X r j - X r c * (X k j * s) := by
  unfold stepF; simp only [if_neg h, if_true]
theorem stepF_o (X : FMat) (r c k : Nat) (s : Fq) (i j : Nat) (h : i ≠ r) (h' : i ≠ k) : stepF X r c k s i j = X i j - X i c * (X k j * s) := by
  unfold stepF; simp only [if_neg h, if_neg h']

theorem red_step {n m : Nat} {X0 X : FMat} {r : Nat} {p : Nat → Nat} {c k : Nat} {s : Fq} (h : Red n m X0 X r p c) (hrk : r ≤ k) (hk : k < n) (hs : s * X k c = 1) (hp : p r = c) :
    Red n m X0 (stepF X r c k s) (r + 1) p (c + 1) := by
  have hrn : r < n := by omega
  have hkc : X k c * s = 1 := by rw [Fin.mul_comm]; exact hs
  refine ⟨by omega, fun v => Iff.trans ?_ (h.ker v), ?_, ?_, ?_, ?_, ?_, ?_, ?_⟩
  · have row : dt m (stepF X r c k s r) v = s * dt m (X k) v := by
      rw [dt_congr (u' := fun j => s * X k j) (fun j _ => by rw [stepF_r]; exact Fin.mul_comm _ _) (fun _ _ => rfl), dt_mul_l]
    have rowk : k ≠ r → dt m (stepF X r c k s k) v = dt m (X r) v + (- X r c) * (s * dt m (X k) v) := fun hne => by
      rw [dt_congr (u' := fun j => X r j + (- X r c) * (s * X k j)) (fun j _ => by rw [stepF_k _ _ _ _ _ _ hne]; grind) (fun _ _ => rfl), dt_add_l, dt_mul_l, dt_mul_l]
    have rowo : ∀ i, i ≠ r → i ≠ k → dt m (stepF X r c k s i) v = dt m (X i) v + (- X i c) * (s * dt m (X k) v) := fun i h1 h2 => by
      rw [dt_congr (u' := fun j => X i j + (- X i c) * (s * X k j)) (fun j _ => by rw [stepF_o _ _ _ _ _ _ _ h1 h2]; grind) (fun _ _ => rfl), dt_add_l, dt_mul_l, dt_mul_l]
    constructor
    · intro hv
      have h1 := hv r hrn
      rw [row] at h1
      have hk0 : dt m (X k) v = 0 := by
        have : X k c * (s * dt m (X k) v) = 0 := by rw [h1]; grind
        grind
      intro i hi
      by_cases e1 : i = k
      · rw [e1]; exact hk0
      · by_cases e2 : i = r
        · rw [e2]
          have := hv k hk
          rw [rowk (fun e => e1 (by rw [e2, e])), hk0] at this; grind
        · have := hv i hi
          rw [rowo i e2 e1, hk0] at this; grind
    · intro hv i hi
      by_cases e2 : i = r
      · rw [e2, row, hv k hk]; grind
      · by_cases e1 : i = k
        · rw [e1, rowk (fun e => e2 (by rw [e1, e])), hv k hk, hv r hrn]; grind
        · rw [rowo i e2 e1, hv k hk, hv i hi]; grind
  · intro i hi
    have hkS : Span n m X0 (fun j => s * X k j) := span_mul s (h.span k hk)
    by_cases e2 : i = r
    · exact span_congr hkS fun j _ => by rw [e2, stepF_r]; exact Fin.mul_comm _ _
    · by_cases e1 : i = k
      · exact span_congr (span_add (h.span r hrn) (span_mul (- X r c) hkS)) fun j _ => by rw [e1, stepF_k _ _ _ _ _ _ (fun e => e2 (by rw [e1, e]))]; grind
      · exact span_congr (span_add (h.span i hi) (span_mul (- X i c) hkS)) fun j _ => by rw [stepF_o _ _ _ _ _ _ _ e2 e1]; grind
  · intro l hl
    by_cases e : l = r
    · rw [e, hp]; omega
    · have := h.pc l (by omega); omega
  · intro l l' h1 h2
    by_cases e : l' = r
    · rw [e, hp]; exact h.pc l (by omega)
    · exact h.mono l l' h1 (by omega)
  · intro l hl
    by_cases e : l = r
    · rw [e, hp, stepF_r]; exact hkc
    · have hpl := h.pc l (by omega)
      rw [stepF_o _ _ _ _ _ _ _ e (by omega), h.one l (by omega), h.low k _ hrk hk hpl]; grind
  · intro l i hl hi hne
    by_cases e : l = r
    · rw [e, hp]
      by_cases e1 : i = k
      · rw [e1, stepF_k _ _ _ _ _ _ (fun e' => hne (by rw [e1, e', e])), hkc]; grind
      · rw [stepF_o _ _ _ _ _ _ _ (fun e' => hne (by rw [e', e])) e1, hkc]; grind
    · have hpl := h.pc l (by omega)
      by_cases e2 : i = r
      · rw [e2, stepF_r, h.low k _ hrk hk hpl]; grind
      · by_cases e1 : i = k
        · rw [e1, stepF_k _ _ _ _ _ _ (fun e => e2 (by rw [e1, e])), h.low k _ hrk hk hpl, h.low r _ (Nat.le_refl _) hrn hpl]; grind
        · rw [stepF_o _ _ _ _ _ _ _ e2 e1, h.low k _ hrk hk hpl, h.zero l i (by omega) hi hne]; grind
  · intro i j h1 h2 h3
    have e2 : i ≠ r := by omega
    by_cases ej : j = c
    · rw [ej]
      by_cases e1 : i = k
      · rw [e1, stepF_k _ _ _ _ _ _ (by omega), hkc]; grind
      · rw [stepF_o _ _ _ _ _ _ _ e2 e1, hkc]; grind
    · have hj : j < c := by omega
      by_cases e1 : i = k
      · rw [e1, stepF_k _ _ _ _ _ _ (by omega), h.low k _ hrk hk hj, h.low r _ (Nat.le_refl _) hrn hj]; grind
      · rw [stepF_o _ _ _ _ _ _ _ e2 e1, h.low k _ hrk hk hj, h.low i _ (by omega) h2 hj]; grind
  · intro l j hl hj
    by_cases e : l = r
    · subst e
      rw [stepF_r, h.low k j hrk hk (by omega)]; grind
    · have hpl := h.pc l (by omega)
      rw [stepF_o _ _ _ _ _ _ _ e (by omega), h.left l j (by omega) hj, h.low k j hrk hk (by omega)]; grind

/-! What a reduction says. -/

/-- A sum over the pivots alone. -/
theorem sm_pivots {m r : Nat} {p : Nat → Nat} {f : Nat → Fq} (hp : ∀ k, k < r → p k < m) (hmono : ∀ k l, k < l → l < r → p k < p l) (h0 : ∀ j, j < m → (∀ k, k < r → p k ≠ j) → f j = 0) :
    sm m f = sm r (fun k => f (p k)) := by
  induction r generalizing f with
  | zero => exact sm_zero fun j hj => h0 j hj (fun k hk => by omega)
  | succ r ih =>
    have hne : ∀ k, k < r → p k ≠ p r := fun k hk => Nat.ne_of_lt (hmono k r hk (by omega))
    have e1 : sm m f = sm m (fun j => if j = p r then 0 else f j) + sm m (fun j => if j = p r then f j else 0) := by
      rw [← sm_add]; refine sm_congr fun j _ => ?_
      by_cases e : j = p r
      · rw [if_pos e, if_pos e]; grind
      · rw [if_neg e, if_neg e]; grind
    rw [e1, ih (f := fun j => if j = p r then 0 else f j) (fun k hk => hp k (by omega)) (fun k l h1 h2 => hmono k l h1 (by omega)) (fun j hj hk => by
      by_cases e : j = p r
      · show (if j = p r then 0 else f j) = 0
        rw [if_pos e]
      · show (if j = p r then 0 else f j) = 0
        rw [if_neg e]
        exact h0 j hj (fun k hk' => by
          by_cases ek : k = r
          · rw [ek]; exact fun e' => e e'.symm
          · exact hk k (by omega))), sm_one (k := p r) (hp r (by omega)) (fun j _ e => by show (if j = p r then f j else 0) = 0; rw [if_neg e])]
    show _ = sm r _ + f (p r)
    congr 1
    · exact sm_congr fun k hk => by show (if p k = p r then 0 else f (p k)) = f (p k); rw [if_neg (hne k hk)]
    · show (if p r = p r then f (p r) else 0) = _
      rw [if_pos rfl]

end Go.Proofs.YtjjoadmkpbmhpaaGreat

namespace Go.Proofs.YtjjoadmkpbmhpaaGreat

/-- How many numbers below m meet a test. -/
def cntB (b : Nat → Bool) : Nat → Nat
  | 0 => 0
  | m + 1 => cntB b m + (if b m = true then 1 else 0)
theorem cntB_congr {b b' : Nat → Bool} {m : Nat} (h : ∀ c, c < m → b c = b' c) : cntB b m = cntB b' m := by
  induction m with
  | zero => rfl
  | succ m ih => rw [cntB, cntB, ih (fun c hc => h c (by omega)), h m (by omega)]
/-- A test that tells a property. -/
def Tells (b : Nat → Bool) (P : Nat → Prop) : Prop := ∀ c, b c = true ↔ P c
theorem Tells.congr {b b' : Nat → Bool} {P : Nat → Prop} {m : Nat} (h : Tells b P) {P' : Nat → Prop} (h' : Tells b' P') (e : ∀ c, c < m → (P c ↔ P' c)) : cntB b m = cntB b' m :=
  cntB_congr fun c hc => by
    rw [Bool.eq_iff_iff, h c, h' c]; exact e c hc

/-- A least number with a property. -/
theorem least {P : Nat → Prop} {c : Nat} (h : P c) : ∃ c0, P c0 ∧ ∀ k, k < c0 → ¬ P k := by
  induction c using Nat.strongRecOn with
  | _ c ih =>
    by_cases hk : ∃ k, k < c ∧ P k
    · obtain ⟨k, hk1, hk2⟩ := hk
      exact ih k hk1 hk2
    · exact ⟨c, h, fun k hk1 hk2 => hk ⟨k, hk1, hk2⟩⟩

end Go.Proofs.YtjjoadmkpbmhpaaGreat

namespace Go.Proofs.YtjjoadmkpbmhpaaGreat
open Go.RowKit

theorem owns_other {W W' : World} {B e z : Nat} {v : Value} {k : Nat} {xs : List Value} {r : Option Nat} (h : W.ownsRow B e z v k xs) (hg : W.grownBy W' r) (hr : ∀ g, v.ownBlock = some g → r ≠ some g) : W'.ownsRow B e z v k xs := by
  obtain ⟨h1, h2 | ⟨g, cap, cur, rfl, hB, hh, hrest⟩⟩ := h
  · exact ⟨h1, .inl h2⟩
  · exact ⟨h1, .inr ⟨g, cap, cur, rfl, hB, (hg.block g (Array.getElem?_eq_some_iff.1 hh).1 (fun e => hr g rfl e.symm)).trans hh, hrest⟩⟩

/-- Two rows of different types lie in different blocks. -/
theorem owns_types {W : World} {B B' e e' z z' : Nat} {v v' : Value} {k k' : Nat} {xs xs' : List Value} (h : W.ownsRow B e z v k xs) (h' : W.ownsRow B' e' z' v' k' xs') (hne : e ≠ e') : ∀ g, v.ownBlock = some g → v'.ownBlock ≠ some g := by
  obtain ⟨-, ⟨rfl, -⟩ | ⟨g, cap, cur, rfl, hB, hh, hrest⟩⟩ := h
  · intro g e1; cases e1
  · obtain ⟨-, ⟨rfl, -⟩ | ⟨g', cap', cur', rfl, hB', hh', hrest'⟩⟩ := h'
    · intro g e1 e2; cases e2
    · intro q e1 e2
      have e1' : some g = some q := e1
      have e2' : some g' = some q := e2
      injection e1' with e3
      injection e2' with e4
      subst e3; subst e4
      rw [hh] at hh'
      injection hh' with e5
      injection e5 with e6 e7
      exact hne e7

theorem owns_setCell_other {w : World} {base : Nat} {e : TypeId} {size : Nat} {v : Value} {n : Nat} {xs : List Value} (h : w.ownsRow base e size v n xs) {b o : Nat} (ha : ∀ g, v.ownBlock = some g → b ≠ g) (u : Value) : (w.setCell ⟨b, o, none⟩ u).ownsRow base e size v n xs := by
  obtain ⟨h1, h2 | ⟨g, cap, cur, rfl, hB, hh, hrest⟩⟩ := h
  · exact ⟨h1, .inl h2⟩
  · refine ⟨h1, .inr ⟨g, cap, cur, rfl, hB, ?_, hrest⟩⟩
    rw [Below.heap_setCell _ _ _ _ (fun e => ha g rfl e.symm)]; exact hh

/-- Rows of the call's own, and the slice of their headers. -/
structure TurnS (S k : Nat) (hs : Nat → Value) (ls : Nat → List Int) (ov : Value) (w W : World) : Prop where
  out : W.ownsRow S 23 1 ov k ((List.range k).map hs)
  row : ∀ i, i < k → W.ownsRow S 3 1 (hs i) (ls i).length ((ls i).map (Value.int .i64))
  sep : ∀ i j, i < k → j < k → i ≠ j → ∀ g, (hs i).ownBlock = some g → (hs j).ownBlock ≠ some g
  low : Below S w W
  top : S ≤ W.heap.size

/-- The row of a column. -/
def colOf (rows : List (List Int)) (k : Nat) : List Int := rows.map fun r => nth r k

theorem TurnS.below {S k : Nat} {hs : Nat → Value} {ls : Nat → List Int} {ov : Value} {w W W' : World} (h : TurnS S k hs ls ov w W) (hb : Below W.heap.size W W') : TurnS S k hs ls ov w W' :=
  ⟨owns_below h.out hb, fun i hi => owns_below (h.row i hi) hb, h.sep, h.low.trans (hb.mono h.top), Nat.le_trans h.top hb.size⟩

/-- Another row, made later. -/
theorem TurnS.more {S k H : Nat} {hs : Nat → Value} {ls : Nat → List Int} {ov ov' c : Value} {l : List Int} {w W W' : World} (h : TurnS S k hs ls ov w W) (hc : W.ownsRow H 3 1 c l.length (l.map (Value.int .i64))) (hH : ∀ i, i < k → ∀ g, (hs i).ownBlock = some g → g < H) (hSH : S ≤ H)
    (ho : W'.ownsRow S 23 1 ov' (k + 1) ((List.range k).map hs ++ [c])) (hg : W.grownBy W' ov.ownBlock) : TurnS S (k + 1) (fun i => if i = k then c else hs i) (fun i => if i = k then l else ls i) ov' w W' := by
  have ne : ∀ {v : Value} {B n : Nat} {xs : List Value}, W.ownsRow B 3 1 v n xs → ∀ g, v.ownBlock = some g → ov.ownBlock ≠ some g := fun hv g e => owns_types hv h.out (by decide) g e
  refine ⟨?_, fun i hi => ?_, fun i j hi hj hne g e1 e2 => ?_, h.low.grown hg h.top (fun g e => (h.out.lt g e).1), Nat.le_trans h.top hg.size⟩
  · rw [List.range_succ, List.map_append, List.map_cons, List.map_nil]
    have e : (List.range k).map (fun i => if i = k then c else hs i) = (List.range k).map hs := List.map_congr_left fun i hi => by
      rw [if_neg]; have := List.mem_range.1 hi; omega
    rw [e, if_pos rfl]; exact ho
  · show W'.ownsRow S 3 1 (if i = k then c else hs i) (if i = k then l else ls i).length ((if i = k then l else ls i).map (Value.int .i64))
    by_cases e : i = k
    · rw [if_pos e, if_pos e]; exact owns_mono (owns_other hc hg (ne hc)) hSH
    · rw [if_neg e, if_neg e]; exact owns_other (h.row i (by omega)) hg (ne (h.row i (by omega)))
  · have e1' : (if i = k then c else hs i).ownBlock = some g := e1
    have e2' : (if j = k then c else hs j).ownBlock = some g := e2
    by_cases ei : i = k
    · rw [if_pos ei] at e1'
      rw [if_neg (by omega)] at e2'
      have := hH j (by omega) g e2'
      have := (hc.lt g e1').1
      omega
    · rw [if_neg ei] at e1'
      by_cases ej : j = k
      · rw [if_pos ej] at e2'
        have := hH i (by omega) g e1'
        have := (hc.lt g e2').1
        omega
      · rw [if_neg ej] at e2'
        exact h.sep i j (by omega) (by omega) hne g e1' e2'

end Go.Proofs.YtjjoadmkpbmhpaaGreat

namespace Go.Proofs.YtjjoadmkpbmhpaaGreat
open Go.RowKit

end Go.Proofs.YtjjoadmkpbmhpaaGreat

namespace Go.Proofs.YtjjoadmkpbmhpaaGreat
open Go.RowKit

/-- The pivots go up. -/
def Sorted (l : List Nat) : Prop := ∀ i j (hi : i < l.length) (hj : j < l.length), i < j → l[i] < l[j]
theorem sorted_snoc {l : List Nat} {c : Nat} (h : Sorted l) (hc : ∀ p ∈ l, p < c) : Sorted (l ++ [c]) := by
  intro i j hi hj hij
  rw [List.length_append, List.length_singleton] at hi hj
  by_cases ej : j = l.length
  · subst ej
    rw [List.getElem_append_left (by omega), List.getElem_append_right (Nat.le_refl _)]
    simpa using hc _ (List.getElem_mem (by omega : i < l.length))
  · rw [List.getElem_append_left (by omega), List.getElem_append_left (by omega)]
    exact h i j (by omega) (by omega) hij
theorem stepR_lt {n c : Nat} {s : Mat × List Nat} (h : (∀ p ∈ s.2, p < c) ∧ Sorted s.2) : (∀ p ∈ (stepR n s c).2, p < c + 1) ∧ Sorted (stepR n s c).2 := by
  unfold stepR
  split
  · refine ⟨fun p hp => ?_, sorted_snoc h.2 h.1⟩
    rcases List.mem_append.1 hp with h1 | h1
    · exact Nat.lt_succ_of_lt (h.1 p h1)
    · rw [List.mem_singleton.1 h1]; omega
  · exact ⟨fun p hp => Nat.lt_succ_of_lt (h.1 p hp), h.2⟩
theorem redR_lt (n : Nat) (x : Mat) : ∀ c, (∀ p ∈ (redR n x c).2, p < c) ∧ Sorted (redR n x c).2
  | 0 => ⟨by simp [redR], fun i j hi => by simp [redR] at hi⟩
  | c + 1 => by rw [redR_succ]; exact stepR_lt (redR_lt n x c)

/-- The next pivot tells whether a column is one. -/
structure Next (piv : List Nat) (c k : Nat) : Prop where
  le : k ≤ piv.length
  lo : ∀ i (h : i < piv.length), i < k → piv[i] < c
  up : ∀ i (h : i < piv.length), k ≤ i → c ≤ piv[i]
theorem Next.zero (piv : List Nat) : Next piv 0 0 := ⟨Nat.zero_le _, fun _ _ h => absurd h (Nat.not_lt_zero _), fun _ _ _ => Nat.zero_le _⟩
theorem Next.no {piv : List Nat} {c k : Nat} (h : Next piv c k) (hs : Sorted piv) (e : ∀ hk : k < piv.length, piv[k] ≠ c) : Next piv (c + 1) k ∧ c ∉ piv := by
  have key : ∀ i (hi : i < piv.length), k ≤ i → c < piv[i] := fun i hi hik => by
    by_cases e1 : i = k
    · subst e1; have := h.up i hi hik; have := e hi; omega
    · have := h.up k (by omega) (Nat.le_refl _); have := hs k i (by omega) hi (by omega); omega
  refine ⟨⟨h.le, fun i hi hik => by have := h.lo i hi hik; omega, fun i hi hik => by have := key i hi hik; omega⟩, fun hm => ?_⟩
  obtain ⟨i, hi, rfl⟩ := List.mem_iff_getElem.1 hm
  by_cases hik : i < k
  · have := h.lo i hi hik; omega
  · have := key i hi (by omega); omega

end Go.Proofs.YtjjoadmkpbmhpaaGreat

namespace Go.Proofs.YtjjoadmkpbmhpaaGreat

/-- A matrix of numbers, in the field. -/
def cm (X : Mat) : FMat := fun i j => cq (X i j)
def pf (l : List Nat) : Nat → Nat := fun k => l[k]?.getD 0

theorem Red.congr {n m : Nat} {X0 X Y : FMat} {r : Nat} {p q : Nat → Nat} {c : Nat} (h : Red n m X0 X r p c) (e : ∀ i, i < n → ∀ j, X i j = Y i j) (eq : ∀ k, k < r → p k = q k) : Red n m X0 Y r q c := by
  have er : ∀ i, i < n → X i = Y i := fun i hi => funext (e i hi)
  refine ⟨h.rn, fun v => Iff.trans ?_ (h.ker v), fun i hi => er i hi ▸ h.span i hi, fun k hk => eq k hk ▸ h.pc k hk, fun k l h1 h2 => eq k (by omega) ▸ eq l h2 ▸ h.mono k l h1 h2, fun k hk => ?_, fun k i hk hi hne => ?_, fun i j h1 h2 h3 => ?_, fun k j hk hj => ?_⟩
  · exact ⟨fun hv i hi => by rw [er i hi]; exact hv i hi, fun hv i hi => by rw [← er i hi]; exact hv i hi⟩
  · rw [← eq k hk, ← e k (Nat.lt_of_lt_of_le hk h.rn)]; exact h.one k hk
  · rw [← eq k hk, ← e i hi]; exact h.zero k i hk hi hne
  · rw [← e i h2]; exact h.low i j h1 h2 h3
  · rw [← e k (Nat.lt_of_lt_of_le hk h.rn)]; exact h.left k j hk (by rw [eq k hk]; exact hj)

theorem findP_zero {x : Mat} {n c r : Nat} {i : Nat} (h1 : r ≤ i) (h2 : i < findP x n c r) : x i c = 0 := findF_zero x c (n - r) r i h1 h2
theorem findP_le (x : Mat) (n c r : Nat) (h : r ≤ n) : findP x n c r ≤ n := by have := (findF_lt x c (n - r) r).1; unfold findP; omega
theorem findP_ne {x : Mat} {n c r : Nat} (h : findP x n c r < n) (hr : r ≤ n) : x (findP x n c r) c ≠ 0 := findF_ne x c (n - r) r (by unfold findP at h; omega)

theorem cq_ne {z : Int} (h : 0 ≤ z ∧ z < 1073741789) (hz : z ≠ 0) : cq z ≠ 0 := fun e => by
  rw [cq_zero] at e; omega
theorem cq_inv {z : Int} (h : cq z ≠ 0) : cq (invQ z) * cq z = 1 := inv_z h

theorem putM_at (X : Mat) (k : Nat) (f : Nat → Int) (j : Nat) : putM X k f k j = f j := if_pos rfl
theorem putM_ne (X : Mat) (k : Nat) (f : Nat → Int) (i j : Nat) (h : i ≠ k) : putM X k f i j = X i j := if_neg h

theorem pivR_field {X : Mat} {n r c k : Nat} (hr : r < n) (i j : Nat) (hi : i < n) : cm (pivR X n r c k) i j = stepF (cm X) r c k (cq (invQ (X k c))) i j := by
  show cq (putM (lessA (putM X k (X r)) (ownR X c k) c n) r (ownR X c k) i j) = _
  by_cases e : i = r
  · subst e
    rw [stepF_r]
    rw [putM_at]
    unfold ownR
    rw [cq_mod, cq_mul]
    show _ = cq (X k j) * _
    grind
  · rw [putM_ne _ _ _ _ _ e]
    unfold lessA
    rw [if_pos hi, cq_mod, cq_add, cq_neg, cq_mod, cq_mul]
    unfold ownR
    rw [cq_mod, cq_mul]
    by_cases e1 : i = k
    · subst e1
      rw [stepF_k _ _ _ _ _ _ e, putM_at, putM_at]
      show _ = cq (X r j) - cq (X r c) * (cq (X i j) * _)
      generalize cq (invQ (X i c)) = s at *
      grind
    · rw [stepF_o _ _ _ _ _ _ _ e e1, putM_ne _ _ _ _ _ e1, putM_ne _ _ _ _ _ e1]
      show _ = cq (X i j) - cq (X i c) * (cq (X k j) * _)
      generalize cq (invQ (X k c)) = s at *
      grind

theorem pf_app (l : List Nat) (c : Nat) : (∀ k, k < l.length → pf l k = pf (l ++ [c]) k) ∧ pf (l ++ [c]) l.length = c := by
  refine ⟨fun k hk => ?_, ?_⟩
  · unfold pf; rw [List.getElem?_append_left hk]
  · unfold pf; rw [List.getElem?_append_right (Nat.le_refl _)]; simp

/-- The reference's reduction is a reduction. -/
theorem redR_red {n m : Nat} {X : Mat} (hX : NumM n m X) : ∀ c, c ≤ m → Red n m (cm X) (cm (redR n X c).1) (redR n X c).2.length (pf (redR n X c).2) c
  | 0, _ => red_start n m (cm X) _
  | c + 1, hc => by
    have ih := redR_red hX c (by omega)
    have hn := redR_num hX c
    rw [redR_succ]
    generalize redR n X c = s at ih hn
    obtain ⟨y, piv⟩ := s
    simp only at ih hn
    have hle := findP_le y n c piv.length ih.rn
    by_cases hk : findP y n c piv.length < n
    · rw [stepR_some rfl hk]
      show Red n m (cm X) (cm (pivR y n piv.length c (findP y n c piv.length))) (piv ++ [c]).length (pf (piv ++ [c])) (c + 1)
      have hge := findP_ge y n c piv.length
      have hne := cq_ne (hn _ c hk (by omega)) (findP_ne hk ih.rn)
      rw [List.length_append, List.length_singleton]
      have h1 := pf_app piv c
      have ih' := ih.congr (fun _ _ _ => rfl) h1.1
      have hst := red_step ih' hge hk (cq_inv hne) h1.2
      exact hst.congr (fun i hi j => (pivR_field (X := y) (n := n) (r := piv.length) (c := c) (k := findP y n c piv.length) (by omega) i j hi).symm) (fun _ _ => rfl)
    · have hk' : findP y n c piv.length = n := by omega
      rw [stepR_none hk']
      refine red_none ih (fun i h1 h2 => ?_)
      show cq (y i c) = 0
      have h1' : piv.length ≤ i := h1
      rw [findP_zero (x := y) (n := n) (c := c) h1' (by omega)]; exact cq_0

/-! The program's reduction computes the same. -/
theorem findF_congr {x y : Mat} {c n : Nat} (h : ∀ i, i < n → x i c = y i c) : ∀ f k, k + f ≤ n → findF x c f k = findF y c f k
  | 0, _, _ => rfl
  | f + 1, k, hk => by
    unfold findF
    rw [h k (by omega), findF_congr h f (k + 1) (by omega)]

theorem pivM_pivR {x X : Mat} {n m r c k : Nat} (hX : NumM n m X) (e : ∀ i j, i < n → j < m → x i j = X i j) (hr : r < n) (hk : k < n) (hc : c < m) (h0 : ∀ j, j < c → X k j = 0) (i j : Nat) (hi : i < n) (hj : j < m) :
    pivM x n r c k i j = pivR X n r c k i j := by
  have hown0 : j < c → ownR X c k j = 0 := fun h => by unfold ownR; rw [h0 j h, Int.mul_zero]; rfl
  have hvr : x k j * invQ (x k c) % 1073741789 = ownR X c k j := by
    unfold ownR; rw [e k j hk hj, e k c hk hc, Int.mul_comm]
  have hX1 : swapM x r k i j = if i = r then X k j else putM X k (X r) i j := by
    unfold swapM putM
    by_cases e1 : i = r
    · rw [if_pos e1, if_pos e1, e k j hk hj]
    · rw [if_neg e1, if_neg e1]
      by_cases e2 : i = k
      · rw [if_pos e2, if_pos e2, e r j hr hj]
      · rw [if_neg e2, if_neg e2, e i j hi hj]
  have hX1c : i ≠ r → swapM x r k i c = putM X k (X r) i c := fun e1 => by
    unfold swapM putM
    rw [if_neg e1]
    by_cases e2 : i = k
    · rw [if_pos e2, if_pos e2, e r c hr hc]
    · rw [if_neg e2, if_neg e2, e i c hi hc]
  show clearA (scaleM (swapM x r k) r c (invQ (x k c))) r c n i j = putM (lessA (putM X k (X r)) (ownR X c k) c n) r (ownR X c k) i j
  by_cases e1 : i = r
  · subst e1
    unfold clearA
    rw [if_neg (by omega)]
    unfold putM
    rw [if_pos rfl]
    unfold scaleM
    by_cases hjc : c ≤ j
    · rw [if_pos ⟨rfl, hjc⟩]
      have : swapM x i k i j = x k j := by unfold swapM; rw [if_pos rfl]
      rw [this]; exact hvr
    · rw [if_neg (by omega), hX1, if_pos rfl, hown0 (by omega), h0 j (by omega)]
  · have hP : putM (lessA (putM X k (X r)) (ownR X c k) c n) r (ownR X c k) i j = (putM X k (X r) i j + -(putM X k (X r) i c * ownR X c k j % 1073741789)) % 1073741789 := by
      show (if i = r then _ else lessA (putM X k (X r)) (ownR X c k) c n i j) = _
      rw [if_neg e1]
      unfold lessA; rw [if_pos hi]
    rw [hP]
    have hz : ∀ jj, scaleM (swapM x r k) r c (invQ (x k c)) i jj = swapM x r k i jj := fun jj => by unfold scaleM; rw [if_neg (by omega)]
    unfold clearA
    by_cases hjc : c ≤ j
    · rw [if_pos ⟨e1, hi, hjc⟩, hz, hz, hX1, if_neg e1, hX1c e1]
      have : scaleM (swapM x r k) r c (invQ (x k c)) r j = ownR X c k j := by
        unfold scaleM
        rw [if_pos ⟨rfl, hjc⟩]
        have : swapM x r k r j = x k j := by unfold swapM; rw [if_pos rfl]
        rw [this]; exact hvr
      rw [this]
    · rw [if_neg (by omega), hz, hX1, if_neg e1, hown0 (by omega), Int.mul_zero]
      have hnum : 0 ≤ putM X k (X r) i j ∧ putM X k (X r) i j < 1073741789 := (hX.put (i := k) (fun j hj => hX r j hr hj)) i j hi hj
      omega

theorem redM_redR {n m : Nat} {x X : Mat} (hX : NumM n m X) (e : ∀ i j, i < n → j < m → x i j = X i j) : ∀ c, c ≤ m → (redM n x c).2 = (redR n X c).2 ∧ ∀ i j, i < n → j < m → (redM n x c).1 i j = (redR n X c).1 i j
  | 0, _ => ⟨rfl, e⟩
  | c + 1, hc => by
    obtain ⟨ih1, ih2⟩ := redM_redR hX e c (by omega)
    have hn := redR_num hX c
    have hR := redR_red hX c (by omega)
    rw [redM_succ, redR_succ]
    generalize redM n x c = s at ih1 ih2
    generalize redR n X c = u at ih1 ih2 hn hR
    obtain ⟨y, piv⟩ := s
    obtain ⟨Y, piv'⟩ := u
    simp only at ih1 ih2 hn hR
    subst ih1
    have hfind : findP y n c piv.length = findP Y n c piv.length := findF_congr (fun i hi => ih2 i c hi (by omega)) _ _ (by have := hR.rn; omega)
    have hle := findP_le Y n c piv.length hR.rn
    by_cases hk : findP Y n c piv.length < n
    · rw [stepM_some hfind hk, stepR_some rfl hk]
      refine ⟨rfl, fun i j hi hj => ?_⟩
      have hge := findP_ge Y n c piv.length
      refine pivM_pivR hn ih2 (by omega) hk (by omega) (fun jj hjj => ?_) i j hi hj
      have h1 := hR.low _ jj hge hk hjj
      have h2 := hn _ jj hk (by omega)
      rw [show cm Y (findP Y n c piv.length) jj = cq (Y (findP Y n c piv.length) jj) from rfl, cq_zero] at h1
      omega
    · have hk' : findP Y n c piv.length = n := by omega
      rw [stepM_none (hfind.trans hk'), stepR_none hk']
      exact ⟨rfl, ih2⟩

end Go.Proofs.YtjjoadmkpbmhpaaGreat
