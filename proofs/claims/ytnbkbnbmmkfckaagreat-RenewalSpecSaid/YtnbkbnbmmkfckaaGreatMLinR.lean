/- The reference of package linear: Turned. The reference of package linear: Rank and Separate. The reference of package linear: Separate. -/
import Derived.Test.YtnbkbnbmmkfckaaGreatMLinM
namespace Go.Proofs.YtnbkbnbmmkfckaaGreat
open Go.RowKit

theorem owns_other {W W' : World} {B e z : Nat} {v : Value} {k : Nat} {xs : List Value} {r : Option Nat} (h : W.ownsRow B e z v k xs) (hg : W.grownBy W' r) (hr : ∀ g, v.ownBlock = some g → r ≠ some g) : W'.ownsRow B e z v k xs := by
  obtain ⟨h1, h2 | ⟨g, cap, cur, rfl, hB, hh, hrest⟩⟩ := h
  · exact ⟨h1, .inl h2⟩
  · exact ⟨h1, .inr ⟨g, cap, cur, rfl, hB, (hg.block g (Array.getElem?_eq_some_iff.1 hh).1 (fun e => hr g rfl e.symm)).trans hh, hrest⟩⟩

/-- Two rows of different types lie in different blocks. -/
theorem owns_types {W : World} {B B' e e' z z' : Nat} {v v' : Value} {k k' : Nat} {xs xs' : List Value} (h : W.ownsRow B e z v k xs) (h' : W.ownsRow B' e' z' v' k' xs') (hne : e ≠ e') : ∀ g, v.ownBlock = some g → v'.ownBlock ≠ some g := by
  obtain ⟨-, ⟨rfl, -⟩ | ⟨g, cap, cur, rfl, hB, hh, hrest⟩⟩ := h
  · intro g e1; cases e1
  · obtain ⟨-, ⟨rfl, -⟩ | ⟨g', cap', cur', rfl, hB', hh', hrest'⟩⟩ := h'
    · intro g e1 e2; cases e2
    · intro q e1 e2
      have e1' : some g = some q := e1
      have e2' : some g' = some q := e2
      injection e1' with e3
      injection e2' with e4
      subst e3; subst e4
      rw [hh] at hh'
      injection hh' with e5
      injection e5 with e6 e7
      exact hne e7

theorem owns_setCell_other {w : World} {base : Nat} {e : TypeId} {size : Nat} {v : Value} {n : Nat} {xs : List Value} (h : w.ownsRow base e size v n xs) {b o : Nat} (ha : ∀ g, v.ownBlock = some g → b ≠ g) (u : Value) : (w.setCell ⟨b, o, none⟩ u).ownsRow base e size v n xs := by
  obtain ⟨h1, h2 | ⟨g, cap, cur, rfl, hB, hh, hrest⟩⟩ := h
  · exact ⟨h1, .inl h2⟩
  · refine ⟨h1, .inr ⟨g, cap, cur, rfl, hB, ?_, hrest⟩⟩
    rw [Below.heap_setCell _ _ _ _ (fun e => ha g rfl e.symm)]; exact hh

/-- Rows of the call's own, and the slice of their headers. -/
structure TurnS (S k : Nat) (hs : Nat → Value) (ls : Nat → List Int) (ov : Value) (w W : World) : Prop where
  out : W.ownsRow S 23 1 ov k ((List.range k).map hs)
  row : ∀ i, i < k → W.ownsRow S 3 1 (hs i) (ls i).length ((ls i).map (Value.int .i64))
  sep : ∀ i j, i < k → j < k → i ≠ j → ∀ g, (hs i).ownBlock = some g → (hs j).ownBlock ≠ some g
  low : Below S w W
  top : S ≤ W.heap.size

/-- The row of a column. -/
def colOf (rows : List (List Int)) (k : Nat) : List Int := rows.map fun r => nth r k

theorem TurnS.below {S k : Nat} {hs : Nat → Value} {ls : Nat → List Int} {ov : Value} {w W W' : World} (h : TurnS S k hs ls ov w W) (hb : Below W.heap.size W W') : TurnS S k hs ls ov w W' :=
  ⟨owns_below h.out hb, fun i hi => owns_below (h.row i hi) hb, h.sep, h.low.trans (hb.mono h.top), Nat.le_trans h.top hb.size⟩

/-- Another row, made later. -/
theorem TurnS.more {S k H : Nat} {hs : Nat → Value} {ls : Nat → List Int} {ov ov' c : Value} {l : List Int} {w W W' : World} (h : TurnS S k hs ls ov w W) (hc : W.ownsRow H 3 1 c l.length (l.map (Value.int .i64))) (hH : ∀ i, i < k → ∀ g, (hs i).ownBlock = some g → g < H) (hSH : S ≤ H)
    (ho : W'.ownsRow S 23 1 ov' (k + 1) ((List.range k).map hs ++ [c])) (hg : W.grownBy W' ov.ownBlock) : TurnS S (k + 1) (fun i => if i = k then c else hs i) (fun i => if i = k then l else ls i) ov' w W' := by
  have ne : ∀ {v : Value} {B n : Nat} {xs : List Value}, W.ownsRow B 3 1 v n xs → ∀ g, v.ownBlock = some g → ov.ownBlock ≠ some g := fun hv g e => owns_types hv h.out (by decide) g e
  refine ⟨?_, fun i hi => ?_, fun i j hi hj hne g e1 e2 => ?_, h.low.grown hg h.top (fun g e => (h.out.lt g e).1), Nat.le_trans h.top hg.size⟩
  · rw [List.range_succ, List.map_append, List.map_cons, List.map_nil]
    have e : (List.range k).map (fun i => if i = k then c else hs i) = (List.range k).map hs := List.map_congr_left fun i hi => by
      rw [if_neg]; have := List.mem_range.1 hi; omega
    rw [e, if_pos rfl]; exact ho
  · show W'.ownsRow S 3 1 (if i = k then c else hs i) (if i = k then l else ls i).length ((if i = k then l else ls i).map (Value.int .i64))
    by_cases e : i = k
    · rw [if_pos e, if_pos e]; exact owns_mono (owns_other hc hg (ne hc)) hSH
    · rw [if_neg e, if_neg e]; exact owns_other (h.row i (by omega)) hg (ne (h.row i (by omega)))
  · have e1' : (if i = k then c else hs i).ownBlock = some g := e1
    have e2' : (if j = k then c else hs j).ownBlock = some g := e2
    by_cases ei : i = k
    · rw [if_pos ei] at e1'
      rw [if_neg (by omega)] at e2'
      have := hH j (by omega) g e2'
      have := (hc.lt g e1').1
      omega
    · rw [if_neg ei] at e1'
      by_cases ej : j = k
      · rw [if_pos ej] at e2'
        have := hH i (by omega) g e1'
        have := (hc.lt g e2').1
        omega
      · rw [if_neg ej] at e2'
        exact h.sep i j (by omega) (by omega) hne g e1' e2'

end Go.Proofs.YtnbkbnbmmkfckaaGreat

namespace Go.Proofs.YtnbkbnbmmkfckaaGreat
open Go.RowKit

end Go.Proofs.YtnbkbnbmmkfckaaGreat

namespace Go.Proofs.YtnbkbnbmmkfckaaGreat
open Go.RowKit

/-- The pivots go up. -/
def Sorted (l : List Nat) : Prop := ∀ i j (hi : i < l.length) (hj : j < l.length), i < j → l[i] < l[j]
/-- The next pivot tells whether a column is one. -/
structure Next (piv : List Nat) (c k : Nat) : Prop where
  le : k ≤ piv.length
  lo : ∀ i (h : i < piv.length), i < k → piv[i] < c
  up : ∀ i (h : i < piv.length), k ≤ i → c ≤ piv[i]
theorem Next.zero (piv : List Nat) : Next piv 0 0 := ⟨Nat.zero_le _, fun _ _ h => absurd h (Nat.not_lt_zero _), fun _ _ _ => Nat.zero_le _⟩
theorem Next.no {piv : List Nat} {c k : Nat} (h : Next piv c k) (hs : Sorted piv) (e : ∀ hk : k < piv.length, piv[k] ≠ c) : Next piv (c + 1) k ∧ c ∉ piv := by
  have key : ∀ i (hi : i < piv.length), k ≤ i → c < piv[i] := fun i hi hik => by
    by_cases e1 : i = k
    · subst e1; have := h.up i hi hik; have := e hi; omega
    · have := h.up k (by omega) (Nat.le_refl _); have := hs k i (by omega) hi (by omega); omega
  refine ⟨⟨h.le, fun i hi hik => by have := h.lo i hi hik; omega, fun i hi hik => by have := key i hi hik; omega⟩, fun hm => ?_⟩
  obtain ⟨i, hi, rfl⟩ := List.mem_iff_getElem.1 hm
  by_cases hik : i < k
  · have := h.lo i hi hik; omega
  · have := key i hi (by omega); omega

end Go.Proofs.YtnbkbnbmmkfckaaGreat
