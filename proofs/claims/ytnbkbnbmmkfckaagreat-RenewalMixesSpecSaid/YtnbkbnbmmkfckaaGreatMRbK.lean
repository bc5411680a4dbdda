/- The laws of rebuilding: the examples, reckoned; calls whose values are known; the program of three rows. The laws of rebuilding: the examples hold (sane). -/
import Derived.Test.YtnbkbnbmmkfckaaGreatMRbI
import Derived.Test.YtnbkbnbmmkfckaaGreatMRbA
import Derived.Test.YtnbkbnbmmkfckaaGreatMSane
namespace Go.Proofs.YtnbkbnbmmkfckaaGreat
open Go.RowKit FP

abbrev R3 : List (List Int) := [[1, 1], [1, 2], [1, 3]]
abbrev W3 : List Int := [0, 1, 2]
theorem exk_p : progE R3 W3 = 0 := by decide
theorem rows_of3 {w : World} {b c : Nat} {r s t : Value} {x y z : List Int} (h : w.cell? ⟨b, 0, none⟩ = some r) (h2 : w.cell? ⟨b, 1, none⟩ = some s) (h3 : w.cell? ⟨b, 2, none⟩ = some t) (hI : Ints w r x) (hJ : Ints w s y) (hK : Ints w t z) (hc : 3 ≤ c) : Rows2 w (.slice (some ⟨b, 0, none⟩) 3 c) [x, y, z] :=
  ⟨_, c, rfl, hc, by simp, fun k hk => by
    match k, hk with
    | 0, _ => exact ⟨b, 0, r, rfl, h, hI⟩
    | 1, _ => exact ⟨b, 0, s, rfl, h2, hJ⟩
    | 2, _ => exact ⟨b, 0, t, rfl, h3, hK⟩⟩
theorem ints_of3 {w : World} {b c : Nat} {x y z : Int} (h : w.cell? ⟨b, 0, none⟩ = some (.int .i64 x)) (h2 : w.cell? ⟨b, 1, none⟩ = some (.int .i64 y)) (h3 : w.cell? ⟨b, 2, none⟩ = some (.int .i64 z)) (hx : R64 x) (hy : R64 y) (hz : R64 z) (hc : 3 ≤ c) : Ints w (.slice (some ⟨b, 0, none⟩) 3 c) [x, y, z] :=
  ⟨_, c, rfl, hc, by simp, by simp [hx, hy, hz], fun k hk => ⟨b, 0, rfl, by
    match k, hk with
    | 0, _ => exact h
    | 1, _ => exact h2
    | 2, _ => exact h3⟩⟩

end Go.Proofs.YtnbkbnbmmkfckaaGreat

namespace Go.Proofs.YtnbkbnbmmkfckaaGreat
open Go.RowKit FP

end Go.Proofs.YtnbkbnbmmkfckaaGreat
