/- The reference of dealing: Number, power, Commits, public, Public. The reference of dealing: Public, share, Fits, Few. The reference of dealing: Few. -/
import Derived.Test.YtnbkbnbmmkfckaaMDeaV
import Derived.Deep.RegionHeld3
namespace Go.Proofs.Ytnbkbnbmmkfckaa
open Go.RowKit FP

/-- Are numbers commitments? -/
def comB (rows : List (List Int)) (cs : List Int) : Bool := !cs.any notEl && decide (cs.length = colsQ rows)
theorem comB_E {rows : List (List Int)} {owners cs : List Int} (hp : progE rows owners = 0) : dchkE rows owners cs = if comB rows cs = true then 0 else 340 := by
  unfold dchkE comB
  rw [if_neg (by simp [hp])]
  by_cases h : cs.length = colsQ rows <;> cases e : cs.any notEl <;> simp [h]

end Go.Proofs.Ytnbkbnbmmkfckaa

namespace Go.Proofs.Ytnbkbnbmmkfckaa
open Go.RowKit FP

end Go.Proofs.Ytnbkbnbmmkfckaa

namespace Go.Proofs.Ytnbkbnbmmkfckaa
open Go.RowKit FP

end Go.Proofs.Ytnbkbnbmmkfckaa
