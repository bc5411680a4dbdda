/- The reference of package program: SameInts, Same, Has. The reference of package program: Has, People, Columns, Few; the laws' product. The reference of package program: Few; the laws' product. -/
import Derived.Test.YtnbkbnbmmkfckaaMProC
namespace Go.Proofs.Ytnbkbnbmmkfckaa
open Go.RowKit FP

theorem Ints.drew {w : World} {v : Value} {zs : List Int} (h : Ints w v zs) : Ints w.drew v zs := h.below (Below.refl _ _).drew
theorem Rows2.drew {w : World} {v : Value} {rows : List (List Int)} (h : Rows2 w v rows) : Rows2 w.drew v rows := h.below (Below.refl _ _).drew
end Go.Proofs.Ytnbkbnbmmkfckaa

namespace Go.Proofs.Ytnbkbnbmmkfckaa
open Go.RowKit FP

end Go.Proofs.Ytnbkbnbmmkfckaa

namespace Go.Proofs.Ytnbkbnbmmkfckaa
open Go.RowKit FP

end Go.Proofs.Ytnbkbnbmmkfckaa
