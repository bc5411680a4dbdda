/- Rebuilding a share, in plain Lean. Rebuilding a share, in plain Lean: what parts hide, and what too few helpers know. -/
import Derived.Test.YtnbkbnbmmkfckaaMDeaV
import Derived.Test.YtnbkbnbmmkfckaaMSuA
import Derived.Test.YtnbkbnbmmkfckaaMSane
namespace Go.Proofs.Ytnbkbnbmmkfckaa
open Go.RowKit

/-! Sums. -/
/-! Helpers. -/
/-! Plan, Part, Finish. -/
/-! Masks that add up to 0. -/
/-! The laws. -/
end Go.Proofs.Ytnbkbnbmmkfckaa

namespace Go.Proofs.Ytnbkbnbmmkfckaa
open Go.RowKit

/-! Too few helpers. -/
end Go.Proofs.Ytnbkbnbmmkfckaa
