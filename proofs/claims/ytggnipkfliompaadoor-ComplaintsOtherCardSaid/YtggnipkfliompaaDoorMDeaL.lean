/- Package dealing: the rows of shares, collected. Linear algebra over the field: kernels, spans, ranks. Ranks: how many columns do not lead a vector of a kernel. The reference of package linear: Turned. The reference of package linear: Rank and Separate. The reference of package linear: Separate. The reductions of the program and of the reference, in the field. The reference of package linear: Combine. The reference of package linear: Combine, where there are no columns. The program and the reference compute the same. The program's Separate and the reference's compute the same. The examples of the chapter, reckoned. The laws' own functions: right, made, proves. The laws' own functions: made. The laws' examples: sane returns true. What Combine and Separate say: a target is made of rows exactly if no list proves that it is not. Separate's proofs; and the rank, row by row. What the calls give, with their values known: for the laws. The rank, row by row; and that of the columns. Package dealing: the sum of shares. Package dealing: Recover. Dealing: the examples, reckoned; calls whose values are known. The reference of dealing: comparing; the laws' program of one row. The laws of dealing: the program of one row. The laws of dealing: the examples. The laws of dealing: small programs, columns, random numbers. The laws of dealing: every share that was dealt fits, and with no other value. The reference of dealing: Number, power, Commits, public, Public. Package complaints, in plain Lean: what Make and Settle compute. Package parcels: the encoding of some integers, pads. -/
import Derived.Test.YtggnipkfliompaaDoorMCoA
import Derived.Test.YtggnipkfliompaaDoorMFq
import Derived.Test.YtggnipkfliompaaDoorMLinP
import Derived.Test.YtggnipkfliompaaDoorMEqA
import Derived.Test.YtggnipkfliompaaDoorMCodD
import Derived.Deep.RegionLaw
import Derived.Deep.AppendLies
import Derived.Deep.RegionHeld3
import Derived.BigQuiet
namespace Go.Proofs.YtggnipkfliompaaDoor
open Go.RowKit FP

attribute [local go_sem] Oper.semAt_some

/-- Rows that lie in a row of the call's own. -/
theorem Rows2.own {w : World} {base n : Nat} {v : Value} {vals : List Value} {rows : List (List Int)} (h : w.ownsRow base 23 1 v n vals) (hl : vals.length = rows.length) (hm : rows.length ≤ 17592186044416) (hk : ∀ k (h1 : k < rows.length) (h2 : k < vals.length), Ints w vals[k] rows[k]) : Rows2 w v rows := by
  obtain ⟨hn, h⟩ := h
  rw [hl, Nat.mul_one] at hn
  rcases h with ⟨rfl, h0⟩ | ⟨g, cap, cur, rfl, -, hg, hnc, -, hcs, hcur⟩
  · have : rows = [] := List.length_eq_zero_iff.1 (by omega)
    subst this
    exact Rows2.nil _ _ _
  · subst hn
    refine ⟨some ⟨g, 0, none⟩, cap, rfl, hnc, hm, fun k hlt => ⟨g, 0, vals[k]'(by omega), rfl, ?_, hk k hlt (by omega)⟩⟩
    rw [Nat.zero_add]
    have e : cur.toList[k]? = some (vals[k]'(by omega)) := by
      have e2 : (cur.toList.take (rows.length * 1))[k]? = some (vals[k]'(by omega)) := by rw [hcur, List.getElem?_eq_getElem (by omega)]
      rwa [List.getElem?_take, if_pos (by omega)] at e2
    exact row_cell hg (by rw [← Array.getElem?_toList]; exact e)

end Go.Proofs.YtggnipkfliompaaDoor

namespace Go.Proofs.YtggnipkfliompaaDoor

abbrev FMat := Nat → Nat → Fq

/-- The product of two lists. -/
def dt (m : Nat) (u v : Nat → Fq) : Fq := sm m (fun j => u j * v j)
def Ker (n m : Nat) (X : FMat) (v : Nat → Fq) : Prop := ∀ i, i < n → dt m (X i) v = 0
def Span (n m : Nat) (X : FMat) (t : Nat → Fq) : Prop := ∃ y : Nat → Fq, ∀ j, j < m → t j = sm n (fun i => y i * X i j)
/-! One step of a reduction. -/

/-- The state of a reduction of X0 after the first c columns: the rows X, and the pivots' columns p below r. -/
structure Red (n m : Nat) (X0 X : FMat) (r : Nat) (p : Nat → Nat) (c : Nat) : Prop where
  rn : r ≤ n
  ker : ∀ v, Ker n m X v ↔ Ker n m X0 v
  span : ∀ i, i < n → Span n m X0 (X i)
  pc : ∀ k, k < r → p k < c
  mono : ∀ k l, k < l → l < r → p k < p l
  one : ∀ k, k < r → X k (p k) = 1
  zero : ∀ k i, k < r → i < n → i ≠ k → X i (p k) = 0
  low : ∀ i j, r ≤ i → i < n → j < c → X i j = 0
  left : ∀ k j, k < r → j < p k → X k j = 0

/-! What a reduction says. -/

end Go.Proofs.YtggnipkfliompaaDoor

namespace Go.Proofs.YtggnipkfliompaaDoor

/-- How many numbers below m meet a test. -/
def cntB (b : Nat → Bool) : Nat → Nat
  | 0 => 0
  | m + 1 => cntB b m + (if b m = true then 1 else 0)
theorem cntB_congr {b b' : Nat → Bool} {m : Nat} (h : ∀ c, c < m → b c = b' c) : cntB b m = cntB b' m := by
  induction m with
  | zero => rfl
  | succ m ih => rw [cntB, cntB, ih (fun c hc => h c (by omega)), h m (by omega)]
/-- A test that tells a property. -/
def Tells (b : Nat → Bool) (P : Nat → Prop) : Prop := ∀ c, b c = true ↔ P c
theorem Tells.congr {b b' : Nat → Bool} {P : Nat → Prop} {m : Nat} (h : Tells b P) {P' : Nat → Prop} (h' : Tells b' P') (e : ∀ c, c < m → (P c ↔ P' c)) : cntB b m = cntB b' m :=
  cntB_congr fun c hc => by
    rw [Bool.eq_iff_iff, h c, h' c]; exact e c hc

/-- A least number with a property. -/
theorem least {P : Nat → Prop} {c : Nat} (h : P c) : ∃ c0, P c0 ∧ ∀ k, k < c0 → ¬ P k := by
  induction c using Nat.strongRecOn with
  | _ c ih =>
    by_cases hk : ∃ k, k < c ∧ P k
    · obtain ⟨k, hk1, hk2⟩ := hk
      exact ih k hk1 hk2
    · exact ⟨c, h, fun k hk1 hk2 => hk ⟨k, hk1, hk2⟩⟩

end Go.Proofs.YtggnipkfliompaaDoor

namespace Go.Proofs.YtggnipkfliompaaDoor
open Go.RowKit

theorem owns_other {W W' : World} {B e z : Nat} {v : Value} {k : Nat} {xs : List Value} {r : Option Nat} (h : W.ownsRow B e z v k xs) (hg : W.grownBy W' r) (hr : ∀ g, v.ownBlock = some g → r ≠ some g) : W'.ownsRow B e z v k xs := by
  obtain ⟨h1, h2 | ⟨g, cap, cur, rfl, hB, hh, hrest⟩⟩ := h
  · exact ⟨h1, .inl h2⟩
  · exact ⟨h1, .inr ⟨g, cap, cur, rfl, hB, (hg.block g (Array.getElem?_eq_some_iff.1 hh).1 (fun e => hr g rfl e.symm)).trans hh, hrest⟩⟩

/-- Two rows of different types lie in different blocks. -/
theorem owns_types {W : World} {B B' e e' z z' : Nat} {v v' : Value} {k k' : Nat} {xs xs' : List Value} (h : W.ownsRow B e z v k xs) (h' : W.ownsRow B' e' z' v' k' xs') (hne : e ≠ e') : ∀ g, v.ownBlock = some g → v'.ownBlock ≠ some g := by
  obtain ⟨-, ⟨rfl, -⟩ | ⟨g, cap, cur, rfl, hB, hh, hrest⟩⟩ := h
  · intro g e1; cases e1
  · obtain ⟨-, ⟨rfl, -⟩ | ⟨g', cap', cur', rfl, hB', hh', hrest'⟩⟩ := h'
    · intro g e1 e2; cases e2
    · intro q e1 e2
      have e1' : some g = some q := e1
      have e2' : some g' = some q := e2
      injection e1' with e3
      injection e2' with e4
      subst e3; subst e4
      rw [hh] at hh'
      injection hh' with e5
      injection e5 with e6 e7
      exact hne e7

theorem owns_setCell_other {w : World} {base : Nat} {e : TypeId} {size : Nat} {v : Value} {n : Nat} {xs : List Value} (h : w.ownsRow base e size v n xs) {b o : Nat} (ha : ∀ g, v.ownBlock = some g → b ≠ g) (u : Value) : (w.setCell ⟨b, o, none⟩ u).ownsRow base e size v n xs := by
  obtain ⟨h1, h2 | ⟨g, cap, cur, rfl, hB, hh, hrest⟩⟩ := h
  · exact ⟨h1, .inl h2⟩
  · refine ⟨h1, .inr ⟨g, cap, cur, rfl, hB, ?_, hrest⟩⟩
    rw [Below.heap_setCell _ _ _ _ (fun e => ha g rfl e.symm)]; exact hh

/-- Rows of the call's own, and the slice of their headers. -/
structure TurnS (S k : Nat) (hs : Nat → Value) (ls : Nat → List Int) (ov : Value) (w W : World) : Prop where
  out : W.ownsRow S 23 1 ov k ((List.range k).map hs)
  row : ∀ i, i < k → W.ownsRow S 3 1 (hs i) (ls i).length ((ls i).map (Value.int .i64))
  sep : ∀ i j, i < k → j < k → i ≠ j → ∀ g, (hs i).ownBlock = some g → (hs j).ownBlock ≠ some g
  low : Below S w W
  top : S ≤ W.heap.size

theorem TurnS.below {S k : Nat} {hs : Nat → Value} {ls : Nat → List Int} {ov : Value} {w W W' : World} (h : TurnS S k hs ls ov w W) (hb : Below W.heap.size W W') : TurnS S k hs ls ov w W' :=
  ⟨owns_below h.out hb, fun i hi => owns_below (h.row i hi) hb, h.sep, h.low.trans (hb.mono h.top), Nat.le_trans h.top hb.size⟩

end Go.Proofs.YtggnipkfliompaaDoor

namespace Go.Proofs.YtggnipkfliompaaDoor
open Go.RowKit

end Go.Proofs.YtggnipkfliompaaDoor

namespace Go.Proofs.YtggnipkfliompaaDoor
open Go.RowKit

/-- The pivots go up. -/
def Sorted (l : List Nat) : Prop := ∀ i j (hi : i < l.length) (hj : j < l.length), i < j → l[i] < l[j]
/-- The next pivot tells whether a column is one. -/
structure Next (piv : List Nat) (c k : Nat) : Prop where
  le : k ≤ piv.length
  lo : ∀ i (h : i < piv.length), i < k → piv[i] < c
  up : ∀ i (h : i < piv.length), k ≤ i → c ≤ piv[i]
theorem Next.zero (piv : List Nat) : Next piv 0 0 := ⟨Nat.zero_le _, fun _ _ h => absurd h (Nat.not_lt_zero _), fun _ _ _ => Nat.zero_le _⟩
theorem Next.no {piv : List Nat} {c k : Nat} (h : Next piv c k) (hs : Sorted piv) (e : ∀ hk : k < piv.length, piv[k] ≠ c) : Next piv (c + 1) k ∧ c ∉ piv := by
  have key : ∀ i (hi : i < piv.length), k ≤ i → c < piv[i] := fun i hi hik => by
    by_cases e1 : i = k
    · subst e1; have := h.up i hi hik; have := e hi; omega
    · have := h.up k (by omega) (Nat.le_refl _); have := hs k i (by omega) hi (by omega); omega
  refine ⟨⟨h.le, fun i hi hik => by have := h.lo i hi hik; omega, fun i hi hik => by have := key i hi hik; omega⟩, fun hm => ?_⟩
  obtain ⟨i, hi, rfl⟩ := List.mem_iff_getElem.1 hm
  by_cases hik : i < k
  · have := h.lo i hi hik; omega
  · have := key i hi (by omega); omega

end Go.Proofs.YtggnipkfliompaaDoor

namespace Go.Proofs.YtggnipkfliompaaDoor

theorem Red.congr {n m : Nat} {X0 X Y : FMat} {r : Nat} {p q : Nat → Nat} {c : Nat} (h : Red n m X0 X r p c) (e : ∀ i, i < n → ∀ j, X i j = Y i j) (eq : ∀ k, k < r → p k = q k) : Red n m X0 Y r q c := by
  have er : ∀ i, i < n → X i = Y i := fun i hi => funext (e i hi)
  refine ⟨h.rn, fun v => Iff.trans ?_ (h.ker v), fun i hi => er i hi ▸ h.span i hi, fun k hk => eq k hk ▸ h.pc k hk, fun k l h1 h2 => eq k (by omega) ▸ eq l h2 ▸ h.mono k l h1 h2, fun k hk => ?_, fun k i hk hi hne => ?_, fun i j h1 h2 h3 => ?_, fun k j hk hj => ?_⟩
  · exact ⟨fun hv i hi => by rw [er i hi]; exact hv i hi, fun hv i hi => by rw [← er i hi]; exact hv i hi⟩
  · rw [← eq k hk, ← e k (Nat.lt_of_lt_of_le hk h.rn)]; exact h.one k hk
  · rw [← eq k hk, ← e i hi]; exact h.zero k i hk hi hne
  · rw [← e i h2]; exact h.low i j h1 h2 h3
  · rw [← e k (Nat.lt_of_lt_of_le hk h.rn)]; exact h.left k j hk (by rw [eq k hk]; exact hj)

/-! The program's reduction computes the same. -/
end Go.Proofs.YtggnipkfliompaaDoor

namespace Go.Proofs.YtggnipkfliompaaDoor
open Go.RowKit

/-- Rows of the call's own behind headers in a block. -/
structure RowsO (S g0 m : Nat) (hs : Nat → Value) (ls : Nat → List Int) (w W : World) : Prop where
  hdr : ∀ i, i < m → W.cell? ⟨g0, i, none⟩ = some (hs i) ∧ W.frozen? ⟨g0, i, none⟩ = false
  blk : S ≤ g0 ∧ g0 < W.heap.size
  row : ∀ i, i < m → W.ownsRow S 3 1 (hs i) (ls i).length ((ls i).map (Value.int .i64))
  sep : ∀ i j, i < m → j < m → i ≠ j → ∀ g, (hs i).ownBlock = some g → (hs j).ownBlock ≠ some g
  apart : ∀ i, i < m → ∀ g, (hs i).ownBlock = some g → g ≠ g0
  low : Below S w W

theorem TurnS.rows {S m : Nat} {hs : Nat → Value} {ls : Nat → List Int} {ov : Value} {w W : World} (h : TurnS S m hs ls ov w W) (hm : 0 < m) : ∃ g0 c, ov = .slice (some ⟨g0, 0, none⟩) m c ∧ m ≤ c ∧ RowsO S g0 m hs ls w W := by
  have h0 := h.out
  obtain ⟨hl, ⟨-, e⟩ | ⟨g, cap, cur, rfl, hB, hh, hcc, hrest⟩⟩ := h.out
  · omega
  · refine ⟨g, cap, rfl, hcc, fun i hi => ⟨?_, h0.frozenAt i⟩, ⟨hB, (Array.getElem?_eq_some_iff.1 hh).1⟩, h.row, h.sep, fun i hi g' e1 e2 => ?_, h.low⟩
    · rw [h0.cellAt i (by omega)]; simp [hi]
    · subst e2; exact owns_types (h.row i hi) h0 (by decide) _ e1 rfl

/-- A row grows, and its header is stored. -/
theorem RowsO.step {S g0 m q : Nat} {hs : Nat → Value} {ls : Nat → List Int} {w W W' : World} (h : RowsO S g0 m hs ls w W) (hq : q < m) {g n cap : Nat} {l : List Int}
    (ho : W'.ownsRow S 3 1 (.slice (some ⟨g, 0, none⟩) n cap) l.length (l.map (Value.int .i64))) (hg : W.grownBy W' (hs q).ownBlock) (hgb : (hs q).ownBlock = some g ∨ W.heap.size ≤ g) :
    RowsO S g0 m (fun i => if i = q then .slice (some ⟨g, 0, none⟩) n cap else hs i) (fun i => if i = q then l else ls i) w (W'.setCell ⟨g0, q, none⟩ (.slice (some ⟨g, 0, none⟩) n cap)) := by
  have hne : some g0 ≠ (hs q).ownBlock := fun e => h.apart q hq g0 e.symm rfl
  have hc : ∀ i, i < m → W'.cell? ⟨g0, i, none⟩ = some (hs i) := fun i hi => by
    rw [World.cell?_of_block (w := W) (w' := W') (a := ⟨g0, i, none⟩) (hg.block g0 h.blk.2 hne)]; exact (h.hdr i hi).1
  have hf : ∀ i, i < m → W'.frozen? ⟨g0, i, none⟩ = false := fun i hi => by
    rw [World.frozen?_of_block (w := W) (w' := W') (a := ⟨g0, i, none⟩) (hg.block g0 h.blk.2 hne)]; exact (h.hdr i hi).2
  have hg0 : g ≠ g0 := by
    rcases hgb with e | e
    · exact h.apart q hq g e
    · have := h.blk.2; omega
  have hother : ∀ i, i < m → i ≠ q → ∀ g', (hs i).ownBlock = some g' → g' ≠ g := fun i hi e g' e1 e2 => by
    subst e2
    rcases hgb with e3 | e3
    · exact h.sep i q hi hq e _ e1 e3
    · have := ((h.row i hi).lt g' e1).2; omega
  refine ⟨fun i hi => ?_, ⟨h.blk.1, ?_⟩, fun i hi => ?_, fun i j hi hj hij g' e1 e2 => ?_, fun i hi g' e1 => ?_, ?_⟩
  · refine ⟨?_, by rw [World.frozen?_setCell]; exact hf i hi⟩
    show _ = some (if i = q then Value.slice (some ⟨g, 0, none⟩) n cap else hs i)
    by_cases e : i = q
    · subst e; rw [if_pos rfl]; exact World.cell?_setCell_same' _ _ _ (by rw [hc i hi]; rfl)
    · rw [if_neg e, set_other (.inr (fun e' => e e'.symm))]; exact hc i hi
  · have := h.blk.2; have := hg.size; simp [World.setCell]; omega
  · show (W'.setCell _ _).ownsRow S 3 1 (if i = q then Value.slice (some ⟨g, 0, none⟩) n cap else hs i) (if i = q then l else ls i).length ((if i = q then l else ls i).map (Value.int .i64))
    by_cases e : i = q
    · rw [if_pos e, if_pos e]
      refine owns_setCell_other ho (fun g' e1 => ?_) _
      have e1' : some g = some g' := e1
      injection e1' with e2
      omega
    · rw [if_neg e, if_neg e]
      refine owns_setCell_other (owns_other (h.row i hi) hg (fun g' e1 e2 => h.sep i q hi hq e g' e1 e2)) (fun g' e1 e2 => h.apart i hi g' e1 e2.symm) _
  · have e1' : (if i = q then Value.slice (some ⟨g, 0, none⟩) n cap else hs i).ownBlock = some g' := e1
    have e2' : (if j = q then Value.slice (some ⟨g, 0, none⟩) n cap else hs j).ownBlock = some g' := e2
    by_cases ei : i = q
    · rw [if_pos ei] at e1'
      rw [if_neg (by omega)] at e2'
      have e3 : some g = some g' := e1'
      injection e3 with e4
      exact hother j hj (by omega) g' e2' e4.symm
    · rw [if_neg ei] at e1'
      by_cases ej : j = q
      · rw [if_pos ej] at e2'
        have e3 : some g = some g' := e2'
        injection e3 with e4
        exact hother i hi ei g' e1' e4.symm
      · rw [if_neg ej] at e2'
        exact h.sep i j hi hj hij g' e1' e2'
  · have e1' : (if i = q then Value.slice (some ⟨g, 0, none⟩) n cap else hs i).ownBlock = some g' := e1
    by_cases ei : i = q
    · rw [if_pos ei] at e1'
      have e3 : some g = some g' := e1'
      injection e3 with e4
      omega
    · rw [if_neg ei] at e1'
      exact h.apart i hi g' e1'
  · exact (h.low.grown hg (Nat.le_trans h.blk.1 (Nat.le_of_lt h.blk.2)) (fun g' e => ((h.row q hq).lt g' e).1)).setCell h.blk.1 _

theorem RowsO.below {S g0 m : Nat} {hs : Nat → Value} {ls : Nat → List Int} {w W W' : World} (h : RowsO S g0 m hs ls w W) (hb : Below W.heap.size W W') : RowsO S g0 m hs ls w W' :=
  ⟨fun i hi => ⟨below_cell hb (h.hdr i hi).1, by rw [hb.frozen (p := ⟨g0, i, none⟩) h.blk.2]; exact (h.hdr i hi).2⟩, ⟨h.blk.1, Nat.lt_of_lt_of_le h.blk.2 hb.size⟩, fun i hi => owns_below (h.row i hi) hb, h.sep, h.apart, h.low.trans (hb.mono (Nat.le_trans h.blk.1 (Nat.le_of_lt h.blk.2)))⟩

end Go.Proofs.YtggnipkfliompaaDoor

namespace Go.Proofs.YtggnipkfliompaaDoor
open Go.RowKit

end Go.Proofs.YtggnipkfliompaaDoor

namespace Go.Proofs.YtggnipkfliompaaDoor

/-! Separate. -/
/-- A list, in the field. -/
def cv (l : List Int) : Nat → Fq := fun j => cq (nth l j)

end Go.Proofs.YtggnipkfliompaaDoor

namespace Go.Proofs.YtggnipkfliompaaDoor

end Go.Proofs.YtggnipkfliompaaDoor

namespace Go.Proofs.YtggnipkfliompaaDoor

end Go.Proofs.YtggnipkfliompaaDoor

namespace Go.Proofs.YtggnipkfliompaaDoor
open Go.RowKit

end Go.Proofs.YtggnipkfliompaaDoor

namespace Go.Proofs.YtggnipkfliompaaDoor
open Go.RowKit

end Go.Proofs.YtggnipkfliompaaDoor

namespace Go.Proofs.YtggnipkfliompaaDoor
open Go.RowKit

theorem r2 (z : Int) (h : decide (-9223372036854775808 ≤ z ∧ z ≤ 9223372036854775807) = true) : R64 z := by unfold R64; simpa using h
/-! The calls, one by one. -/
end Go.Proofs.YtggnipkfliompaaDoor

namespace Go.Proofs.YtggnipkfliompaaDoor

/-- A vector, followed by -1. -/
def ext (n : Nat) (y : Nat → Fq) : Nat → Fq := fun j => if j = n then -1 else y j
end Go.Proofs.YtggnipkfliompaaDoor

namespace Go.Proofs.YtggnipkfliompaaDoor

end Go.Proofs.YtggnipkfliompaaDoor

namespace Go.Proofs.YtggnipkfliompaaDoor
open Go.RowKit

end Go.Proofs.YtggnipkfliompaaDoor

namespace Go.Proofs.YtggnipkfliompaaDoor

/-! Prefixes. -/
end Go.Proofs.YtggnipkfliompaaDoor

namespace Go.Proofs.YtggnipkfliompaaDoor
open Go.RowKit FP

end Go.Proofs.YtggnipkfliompaaDoor

namespace Go.Proofs.YtggnipkfliompaaDoor
open Go.RowKit FP

end Go.Proofs.YtggnipkfliompaaDoor

namespace Go.Proofs.YtggnipkfliompaaDoor
open Go.RowKit FP

end Go.Proofs.YtggnipkfliompaaDoor

namespace Go.Proofs.YtggnipkfliompaaDoor
open Go.RowKit FP

end Go.Proofs.YtggnipkfliompaaDoor

namespace Go.Proofs.YtggnipkfliompaaDoor
open Go.RowKit FP

theorem ints_of2 {w : World} {b c : Nat} {x y : Int} (h : w.cell? ⟨b, 0, none⟩ = some (.int .i64 x)) (h2 : w.cell? ⟨b, 1, none⟩ = some (.int .i64 y)) (hx : R64 x) (hy : R64 y) (hc : 2 ≤ c) : Ints w (.slice (some ⟨b, 0, none⟩) 2 c) [x, y] :=
  ⟨_, c, rfl, hc, by simp, by simp [hx, hy], fun k hk => ⟨b, 0, rfl, by
    match k, hk with
    | 0, _ => exact h
    | 1, _ => exact h2⟩⟩
theorem rows_of2 {w : World} {b c : Nat} {r s : Value} {x y : List Int} (h : w.cell? ⟨b, 0, none⟩ = some r) (h2 : w.cell? ⟨b, 1, none⟩ = some s) (hI : Ints w r x) (hJ : Ints w s y) (hc : 2 ≤ c) : Rows2 w (.slice (some ⟨b, 0, none⟩) 2 c) [x, y] :=
  ⟨_, c, rfl, hc, by simp, fun k hk => by
    match k, hk with
    | 0, _ => exact ⟨b, 0, r, rfl, h, hI⟩
    | 1, _ => exact ⟨b, 0, s, rfl, h2, hJ⟩⟩
end Go.Proofs.YtggnipkfliompaaDoor

namespace Go.Proofs.YtggnipkfliompaaDoor
open Go.RowKit FP

end Go.Proofs.YtggnipkfliompaaDoor

namespace Go.Proofs.YtggnipkfliompaaDoor
open Go.RowKit FP

/-- The slice v reads as words. -/
def Words (w : World) (v : Value) (l : List Int) : Prop :=
  ∃ a cap, v = .slice a l.length cap ∧ l.length ≤ cap ∧ l.length ≤ 1000000000000000 ∧ (∀ z ∈ l, 0 ≤ z ∧ z < 4294967296) ∧
    ∀ k (h : k < l.length), ∃ b off, a = some ⟨b, off, none⟩ ∧ w.cell? ⟨b, off + k, none⟩ = some (.int .u32 l[k])
theorem Words.below {w w' : World} {v : Value} {l : List Int} (h : Words w v l) (hb : Below w.heap.size w w') : Words w' v l := by
  obtain ⟨a, cap, rfl, hc, hl, hr, hk⟩ := h
  refine ⟨a, cap, rfl, hc, hl, hr, fun k hlt => ?_⟩
  obtain ⟨b, off, ha, h1⟩ := hk k hlt
  exact ⟨b, off, ha, below_cell hb h1⟩
theorem Words.nil (w : World) (a : Option Addr) (cap : Nat) : Words w (.slice a 0 cap) [] :=
  ⟨a, cap, rfl, Nat.zero_le _, by simp, by simp, fun k h => absurd h (Nat.not_lt_zero _)⟩

end Go.Proofs.YtggnipkfliompaaDoor

namespace Go.Proofs.YtggnipkfliompaaDoor
open Go.RowKit FP

theorem nth_mapv {f : Int → Int} {l : List Int} {k : Nat} (h : k < l.length) : nth (l.map f) k = f (nth l k) := by
  rw [nth_at (by simpa using h), nth_at h, List.getElem_map]
theorem pub_deal (row s : List Int) : ∀ j, j ≤ s.length → pubF row (dealC s) j = powE 4 (prodF row s j)
  | 0, _ => by show (1 : Int) = powE 4 0; rw [powE_0]
  | j + 1, hj => by
    show pubF row (dealC s) j * powE (nth (dealC s) j) (nth row j) % 2147483579 = powE 4 ((prodF row s j + nth row j * nth s j % 1073741789) % 1073741789)
    rw [pub_deal row s j (by omega), show nth (dealC s) j = powE 4 (nth s j) from nth_mapv (by omega), powE_mul el_four, ← powE_add el_four]
    refine powE_same ?_
    rw [Int.mul_comm (nth s j) (nth row j)]
    generalize nth row j * nth s j = q
    omega
theorem com_deal {rows : List (List Int)} {owners : List Int} {x : Int} {rnd : List Int} (h : DealOK rows owners x rnd) (hp : progE rows owners = 0) : ComOK rows owners (dealC (x :: rnd)) :=
  ⟨h.prog, hp, by simp [dealC, ← h.len], fun c hc => by
    obtain ⟨n, -, rfl⟩ := List.mem_map.1 hc
    exact el_powE el_four n⟩
theorem fit_deal {rows : List (List Int)} {owners : List Int} {x : Int} {rnd : List Int} (h : DealOK rows owners x rnd) (hp : progE rows owners = 0) {k : Nat} (hk : k < rows.length) {v : Int} (hv : 0 ≤ v ∧ v < 1073741789) :
    fitE rows owners (dealC (x :: rnd)) k v = 0 ∧ fitB rows owners (dealC (x :: rnd)) k v = decide (v = prodQ (rows.getD k []) (x :: rnd)) := by
  have hE : fitE rows owners (dealC (x :: rnd)) k v = 0 := by
    unfold fitE
    rw [dchkE_of (com_deal h hp), if_neg (by simp), if_pos (rightS_iff.2 ⟨⟨by omega, by omega⟩, hv⟩)]
  refine ⟨hE, ?_⟩
  have hr := h.prog.row hk
  have hl : (x :: rnd).length = colsQ rows := by rw [List.length_cons]; exact h.len
  unfold fitB
  rw [if_pos hE, Int.toNat_natCast]
  unfold pubQ prodQ
  rw [pub_deal _ _ _ (by simp [dealC]), getD_at hk, hr, show (dealC (x :: rnd)).length = colsQ rows by rw [← hl]; simp [dealC]]
  have hn := prodF_num rows[k] (x :: rnd) (colsQ rows)
  generalize prodF rows[k] (x :: rnd) (colsQ rows) = p at *
  by_cases e : v = p
  · subst e; simp
  · rw [decide_eq_false e]
    refine beq_eq_false_iff_ne.2 fun e2 => e ?_
    have := el_order2 el_four four_ne e2
    omega
end Go.Proofs.YtggnipkfliompaaDoor

namespace Go.Proofs.YtggnipkfliompaaDoor
open Go.RowKit FP

/-- Are numbers commitments? -/
def comB (rows : List (List Int)) (cs : List Int) : Bool := !cs.any notEl && decide (cs.length = colsQ rows)
theorem comB_E {rows : List (List Int)} {owners cs : List Int} (hp : progE rows owners = 0) : dchkE rows owners cs = if comB rows cs = true then 0 else 340 := by
  unfold dchkE comB
  rw [if_neg (by simp [hp])]
  by_cases h : cs.length = colsQ rows <;> cases e : cs.any notEl <;> simp [h]

end Go.Proofs.YtggnipkfliompaaDoor

namespace Go.Proofs.YtggnipkfliompaaDoor
open Go.RowKit FP

/-- A dealing. -/
structure Dlg where
  dealer : Int
  cs : List Int
  ps : List Pcl
/-- Is a dealing complete for a right program? -/
def comQ (rows : List (List Int)) (d : Dlg) : Bool := inB d.dealer 0 63 && (decide (d.ps.length = rows.length) && (comB rows d.cs && numB d.ps))
/-- The error of a program and a dealing. -/
def cE (rows : List (List Int)) (owners : List Int) (d : Dlg) : Int :=
  if progE rows owners ≠ 0 then progE rows owners else if comQ rows d = true then 0 else 360
structure Complete (rows : List (List Int)) (owners : List Int) (d : Dlg) : Prop where
  prog : ProgOK rows owners
  prog0 : progE rows owners = 0
  dealer : 0 ≤ d.dealer ∧ d.dealer ≤ 63
  len : d.ps.length = rows.length
  com : ComOK rows owners d.cs
  num : ∀ k (h : k < d.ps.length), d.ps[k].1 = (k : Int)
theorem comB_ok {rows : List (List Int)} {owners cs : List Int} (hp : progE rows owners = 0) (h : comB rows cs = true) : ComOK rows owners cs :=
  dchkE_ok (by rw [comB_E hp, if_pos h])
theorem comB_of {rows : List (List Int)} {owners cs : List Int} (h : ComOK rows owners cs) : comB rows cs = true := by
  have e := dchkE_of h
  rw [comB_E h.prog0] at e
  cases e2 : comB rows cs with
  | true => rfl
  | false => rw [e2] at e; simp at e
theorem cE_ok {rows : List (List Int)} {owners : List Int} {d : Dlg} : cE rows owners d = 0 ↔ Complete rows owners d := by
  unfold cE
  constructor
  · intro h
    by_cases hp : progE rows owners = 0
    · rw [if_neg (by simp [hp])] at h
      have hq : comQ rows d = true := by
        cases e : comQ rows d with
        | true => rfl
        | false => rw [e] at h; simp at h
      unfold comQ at hq
      rw [Bool.and_eq_true, Bool.and_eq_true, Bool.and_eq_true, decide_eq_true_eq, inB_iff, numB_iff] at hq
      obtain ⟨h1, h2, h3, h4⟩ := hq
      exact ⟨progE_ok hp, hp, h1, h2, comB_ok hp h3, h4⟩
    · rw [if_pos hp] at h; exact absurd h hp
  · rintro ⟨-, h0, h1, h2, h3, h4⟩
    rw [if_neg (by simp [h0]), if_pos]
    unfold comQ
    rw [inB_iff.2 h1, decide_eq_true h2, comB_of h3, numB_iff.2 h4]; rfl
/-- Does a value fit as the share of a row of a complete dealing? -/
def fitV (rows : List (List Int)) (d : Dlg) (row v : Int) : Bool := powE 4 v == pubQ (rows.getD row.toNat []) d.cs
theorem fitE_com {rows : List (List Int)} {owners : List Int} {d : Dlg} (h : Complete rows owners d) {row v : Int} (hr : 0 ≤ row ∧ row < (d.ps.length : Int)) (hv : 0 ≤ v ∧ v < 1073741789) : fitE rows owners d.cs row v = 0 := by
  unfold fitE
  rw [dchkE_of h.com, if_neg (by simp), if_pos]
  rw [rightS_iff]
  have := h.len
  exact ⟨⟨hr.1, by omega⟩, hv⟩
theorem fitB_com {rows : List (List Int)} {owners : List Int} {d : Dlg} (h : Complete rows owners d) {row v : Int} (hr : 0 ≤ row ∧ row < (d.ps.length : Int)) (hv : 0 ≤ v ∧ v < 1073741789) : fitB rows owners d.cs row v = fitV rows d row v := by
  unfold fitB fitV
  rw [if_pos (fitE_com h hr hv)]

/-- The parcel of a row. -/
def parAt (d : Dlg) (row : Int) : Pcl := d.ps.getD row.toNat (0, 0, 0)
theorem parAt_mem {d : Dlg} {row : Int} (hr : 0 ≤ row ∧ row < (d.ps.length : Int)) : ∃ h : row.toNat < d.ps.length, parAt d row = d.ps[row.toNat] := by
  have h : row.toNat < d.ps.length := by omega
  exact ⟨h, by unfold parAt; rw [List.getD_eq_getElem?_getD, List.getElem?_eq_getElem h]; rfl⟩
/-- The error of Make. -/
def mkE (rows : List (List Int)) (owners : List Int) (s : Int) (d : Dlg) (row : Int) : Int :=
  if cE rows owners d ≠ 0 then cE rows owners d else if inB s 1 1073741788 = false then 110 else if row < 0 ∨ (d.ps.length : Int) ≤ row then 1 else
    openE s d.dealer (parAt d row).1 (parAt d row).2.1 (parAt d row).2.2
/-- The value that is opened. -/
def mkV (s : Int) (d : Dlg) (row : Int) : Int := opnV (powE (parAt d row).2.1 s) d.dealer (parAt d row).1 (parAt d row).2.2
/-- Is something wrong? -/
def mkB (rows : List (List Int)) (owners : List Int) (s : Int) (d : Dlg) (row : Int) : Bool := mkE rows owners s d row == 0 && !fitV rows d row (mkV s d row)
/-- A complaint: dealer, row, D, E, S. -/
structure Cmp where
  dealer : Int
  row : Int
  D : Int
  E : Int
  S : Int
/-- The cells of a complaint. -/
def cmpA (c : Cmp) : Array Value := #[.int .i64 c.dealer, .int .i64 c.row, .int .i64 c.D, .int .i64 c.E, .int .i64 c.S]
def cmpV (c : Cmp) : Value := .agg (cmpA c)
def mkC (rows : List (List Int)) (owners : List Int) (s : Int) (d : Dlg) (row : Int) : Cmp :=
  if mkB rows owners s d row = true then ⟨d.dealer, row, powE (parAt d row).2.1 s, prE s (parAt d row).2.1, prS s (parAt d row).2.1⟩ else ⟨0, 0, 0, 0, 0⟩
/-- The error of Settle. -/
def stE (rows : List (List Int)) (owners : List Int) (key : Int) (d : Dlg) (c : Cmp) : Int :=
  if cE rows owners d ≠ 0 then cE rows owners d else if c.dealer ≠ d.dealer ∨ c.row < 0 ∨ (d.ps.length : Int) ≤ c.row then 360 else
    if chkB key (parAt d c.row).2.1 c.D c.E c.S = false then 0 else withE c.D d.dealer (parAt d c.row).1 (parAt d c.row).2.1 (parAt d c.row).2.2
def stG (rows : List (List Int)) (owners : List Int) (key : Int) (d : Dlg) (c : Cmp) : Int :=
  if stE rows owners key d c ≠ 0 then 0 else if chkB key (parAt d c.row).2.1 c.D c.E c.S = false then 2 else
    if fitV rows d c.row (opnV c.D d.dealer (parAt d c.row).1 (parAt d c.row).2.2) = true then 2 else 1
theorem chkB_el {key a d E S : Int} (h : chkB key a d E S = true) : El key ∧ El a ∧ El d := by
  unfold chkB at h
  simp only [Bool.and_eq_true] at h
  exact ⟨elB_iff.1 h.1.1, elB_iff.1 h.1.2.1, elB_iff.1 h.1.2.2⟩

/-- The dealing in a value. -/
def DlgV (w : World) (v : Value) (d : Dlg) : Prop := ∃ cv pv, v = .agg #[.int .i64 d.dealer, cv, pv] ∧ R64 d.dealer ∧ Ints w cv d.cs ∧ Parcels w pv d.ps
theorem DlgV.below {w w' : World} {v : Value} {d : Dlg} (h : DlgV w v d) (hb : Below w.heap.size w w') : DlgV w' v d := by
  obtain ⟨cv, pv, e, hr, h1, h2⟩ := h
  exact ⟨cv, pv, e, hr, h1.below hb, h2.below hb⟩
/-- The program in a value. -/
def PrgV (w : World) (v : Value) (rows : List (List Int)) (owners : List Int) : Prop := ∃ rv ov, v = .agg #[rv, ov] ∧ Rows2 w rv rows ∧ Ints w ov owners
theorem PrgV.below {w w' : World} {v : Value} {rows : List (List Int)} {owners : List Int} (h : PrgV w v rows owners) (hb : Below w.heap.size w w') : PrgV w' v rows owners := by
  obtain ⟨rv, ov, e, h1, h2⟩ := h
  exact ⟨rv, ov, e, h1.below hb, h2.below hb⟩

end Go.Proofs.YtggnipkfliompaaDoor

namespace Go.Proofs.YtggnipkfliompaaDoor
open Go.RowKit FP

set_option maxRecDepth 100000 in
set_option maxHeartbeats 2000000 in
theorem integers_any (v : Value) (zs : List Int) (w : World) (hI : Ints w v zs) (hl : zs.length ≤ 1000) :
    Calls Tryd.prog 81 #[v] w fun e w' => ∃ v', e = .returned v' ∧ Byts w' v' (encL zs) ∧ Below w.heap.size w w' := by
  obtain ⟨a, cap, rfl, hcap, hlen, hr, hk⟩ := hI
  have HR := Lib.hid hr
  have HK := Lib.hid hk
  clear hr hk
  go_enter Tryd.func81, Tryd.ntmps81
  go_wp2_with fail
  have h00 : TextI w zs 0 (w.alloc (.cells #[.int .i64 3, .int .i64 0, .string ⟨#[]⟩, .slice none 0 0] 99)) := ⟨_, World.alloc_heap_new _ _, World.ownsRow_nil _ _ _ _, (Below.refl _ _).alloc (Nat.le_refl _) _⟩
  go_loopw [11] (fun i W => ∃ k : Nat, k ≤ zs.length ∧ i = .int .i64 k ∧ TextI w zs k W) (fun i _ => zs.length - (intOf i).toNat)
  case atStart => exact ⟨0, Nat.zero_le _, rfl, h00⟩
  case round =>
    clear h00
    obtain ⟨k, hkl, rfl, L, hrow, hown, hbe⟩ := hrel
    have hbx := row_lt hrow
    by_cases hlt : k < zs.length
    · obtain ⟨b, off, rfl, q1⟩ := HK.out k hlt
      have hz := HR.out _ (List.getElem_mem hlt)
      have c1 := below_cell hbe q1
      have HT := Lib.hid (show zs.take k ++ [zs[k]] = zs.take (k + 1) from (List.take_succ_eq_append_getElem hlt).symm)
      generalize zs[k] = z at *
      have x3 : wr.cell? ⟨w.heap.size, 3, none⟩ = some L := row_cell hrow rfl
      have x0 : wr.cell? ⟨w.heap.size, 0, none⟩ = some (.int .i64 3) := row_cell hrow rfl
      obtain ⟨W1, hW1, hb1, hr1⟩ := boxed4 wr (.int .i64 1) (.int .i64 z) (.string ⟨#[]⟩) (.slice none 0 0) 99
      have HOW := Lib.hid (own_keep hown hb1)
      have HCE : Hid (∀ j u, (valC z)[j]? = some u → W1.cell? ⟨wr.heap.size, j, none⟩ = some u) := Lib.hid (fun j u hj => row_cell hr1 (by
        match j with
        | 0 | 1 | 2 | 3 => exact hj
        | n + 4 => simp [valC] at hj))
      have HNE := Lib.hid (own_ne hown (b := w.heap.size) (.inr (by omega)))
      have HRW := Lib.hid ((hb1.block _ hbx).trans hrow)
      have HBX : Hid (w.heap.size < W1.heap.size) := Lib.hid (Nat.lt_of_lt_of_le hbx hb1.size)
      have HB1 := Lib.hid hb1
      have HW1 := Lib.hid hW1
      have hk1 : k ≤ 1000 := by omega
      have hbs : w.heap.size + 1 ≤ W1.heap.size := Nat.lt_of_lt_of_le hbx hb1.size
      have HBS := Lib.hid hbs
      clear q1 hown hrow hr1 hb1 hW1 hbs
      go_wp2_with (refine app_val rfl _ _ rfl (w.heap.size + 1) _ (zs.take k) _ rfl (HW1.out ▸ HOW.out) wr.heap.size 1 z rfl (HW1.out ▸ HCE.out) (by omega) (HW1.out ▸ HBS.out) ?_; rw [← HW1.out]; intro g8 cap8 w8 h8 o8; have hr8 := (o8.1.block _ HBX.out (fun e => HNE.out e.symm)).trans HRW.out; have y3 : w8.cell? ⟨w.heap.size, 3, none⟩ = some L := row_cell hr8 rfl; have f3 := row_free hr8 3; have HR8 := Lib.hid hr8; have H8 := Lib.hid h8; have O8 := Lib.hid o8; clear hr8 h8 o8)
      go_roundw
      case rel => exact ⟨k + 1, by omega, by go_num, _, row_set HR8.out 3 _, by
        have hb8 := own_below HOW.out O8.out.1 HBS.out
        refine own_keep_set ?_ (Nat.lt_succ_self _) _
        rw [← HT.out]; exact H8.out, ((hbe.trans (HB1.out.mono hbe.size)).trans (own_below HOW.out O8.out.1 HBS.out |>.mono (Nat.le_succ _))).setCell (Nat.le_refl _) _⟩
      case measure => simp [intOf]; omega
    · have hk2 : k = zs.length := by omega
      rw [hk2, List.take_length] at hown
      have hVl := Lib.hid (Vals.own hown HR.out (by omega))
      have x0 : wr.cell? ⟨w.heap.size, 0, none⟩ = some (.int .i64 3) := row_cell hrow rfl
      have x1 : wr.cell? ⟨w.heap.size, 1, none⟩ = some (.int .i64 0) := row_cell hrow rfl
      have x2 : wr.cell? ⟨w.heap.size, 2, none⟩ = some (.string ⟨#[]⟩) := row_cell hrow rfl
      have x3 : wr.cell? ⟨w.heap.size, 3, none⟩ = some L := row_cell hrow rfl
      have hdt : decide (k < zs.length) = false := decide_eq_false hlt
      obtain ⟨aL, cL, hLe, -⟩ := id hVl.out
      subst hLe
      clear hown hrow hk2
      go_wp2_with fail
      refine (encode_any _ zs _ hVl.out).mono ?_
      rintro e w9 ⟨v9, rfl, hv9, hb9⟩
      have HV9 := Lib.hid hv9
      clear hv9
      go_wp2_with fail
      go_ret
      exact ⟨_, rfl, HV9.out, hbe.trans (hb9.mono hbe.size)⟩

set_option maxRecDepth 100000 in
set_option maxHeartbeats 1000000 in
theorem pad_any (d dealer row : Int) (w : World) (h : ∀ z ∈ [d, dealer, row], R64 z) (hG : Glob w) :
    Calls Tryd.prog 62 #[.int .i64 d, .int .i64 dealer, .int .i64 row] w fun e w' => e = .returned (.int .i64 (padV d dealer row)) ∧ Below w.heap.size w w' := by
  have hI := Lib.hid (ints_made w [d, dealer, row] 3 w.heap.size rfl h (by simp))
  have hb0 := below_new w #[.int .i64 d, .int .i64 dealer, .int .i64 row] 3
  go_enter Tryd.func62, Tryd.ntmps62
  go_wp2_with fail
  refine (integers_any _ [d, dealer, row] _ hI.out (by simp)).mono ?_
  rintro e w1 ⟨v1, rfl, hv1, hb1⟩
  have hb01 := hb0.trans (hb1.mono hb0.size)
  have HV := Lib.hid hv1
  clear hv1
  go_wp2_with fail
  refine (hash_any tagP v1 (encL [d, dealer, row]) _ (by decide) HV.out (encL_pos _) (by have := encL_len h (by simp); simp at this; omega) (hG.below hb01)).mono ?_
  rintro e w2 ⟨rfl, hb2⟩
  go_wp2_with fail
  go_ret
  exact ⟨rfl, hb01.trans (hb2.mono hb01.size)⟩

end Go.Proofs.YtggnipkfliompaaDoor
