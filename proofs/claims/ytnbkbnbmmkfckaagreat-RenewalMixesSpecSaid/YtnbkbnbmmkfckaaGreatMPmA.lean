/- The reference of package program: SameInts, Same, Has. The reference of package program: Has, People, Columns, Few; the laws' product. The reference of package program: Few; the laws' product. -/
import Derived.Test.YtnbkbnbmmkfckaaGreatMProC
namespace Go.Proofs.YtnbkbnbmmkfckaaGreat
open Go.RowKit FP

theorem Ints.drew {w : World} {v : Value} {zs : List Int} (h : Ints w v zs) : Ints w.drew v zs := h.below (Below.refl _ _).drew
theorem Rows2.drew {w : World} {v : Value} {rows : List (List Int)} (h : Rows2 w v rows) : Rows2 w.drew v rows := h.below (Below.refl _ _).drew
/-- Are two programs equal? -/
def sameP (rows rows2 : List (List Int)) (owners owners2 : List Int) : Bool := decide (rows = rows2) && sameQ owners owners2
theorem sameP_len {r s : List (List Int)} {o p : List Int} (h : r.length ≠ s.length) : sameP r s o p = false := by
  unfold sameP
  rw [decide_eq_false (fun e => h (by rw [e]))]; rfl
theorem sameP_own {r s : List (List Int)} {o p : List Int} (h : sameQ o p = false) : sameP r s o p = false := by
  unfold sameP; rw [h, Bool.and_false]
theorem sameP_at {r s : List (List Int)} {o p : List Int} {k : Nat} (h1 : k < r.length) (h2 : k < s.length) (h : sameQ r[k] s[k] = false) : sameP r s o p = false := by
  unfold sameP
  rw [decide_eq_false (fun e => (of_decide_eq_false h) (by subst e; rfl))]; rfl
theorem sameP_all {r s : List (List Int)} {o p : List Int} (h : r.length = s.length) (ho : sameQ o p = true) (h1 : ∀ k (h1 : k < r.length) (h2 : k < s.length), r[k] = s[k]) : sameP r s o p = true := by
  unfold sameP
  rw [decide_eq_true (List.ext_getElem h h1), ho]; rfl

end Go.Proofs.YtnbkbnbmmkfckaaGreat

namespace Go.Proofs.YtnbkbnbmmkfckaaGreat
open Go.RowKit FP

end Go.Proofs.YtnbkbnbmmkfckaaGreat

namespace Go.Proofs.YtnbkbnbmmkfckaaGreat
open Go.RowKit FP

end Go.Proofs.YtnbkbnbmmkfckaaGreat
