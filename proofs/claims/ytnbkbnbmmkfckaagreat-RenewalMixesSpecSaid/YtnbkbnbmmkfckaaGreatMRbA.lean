/- Rebuilding a share, in plain Lean. Rebuilding a share, in plain Lean: what parts hide, and what too few helpers know. -/
import Derived.Test.YtnbkbnbmmkfckaaGreatMDeaV
import Derived.Test.YtnbkbnbmmkfckaaGreatMSuA
import Derived.Test.YtnbkbnbmmkfckaaGreatMSane
namespace Go.Proofs.YtnbkbnbmmkfckaaGreat
open Go.RowKit

/-! Sums. -/
/-! Helpers. -/
/-! Plan, Part, Finish. -/
/-! Masks that add up to 0. -/
/-! The laws. -/
end Go.Proofs.YtnbkbnbmmkfckaaGreat

namespace Go.Proofs.YtnbkbnbmmkfckaaGreat
open Go.RowKit

/-! Too few helpers. -/
end Go.Proofs.YtnbkbnbmmkfckaaGreat
