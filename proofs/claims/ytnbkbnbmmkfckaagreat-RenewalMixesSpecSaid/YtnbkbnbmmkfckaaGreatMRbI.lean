/- The reference of rebuilding a share: Plan, Part, Finish. The reference of rebuilding a share: Finish. -/
import Derived.Test.YtnbkbnbmmkfckaaGreatMRbF
namespace Go.Proofs.YtnbkbnbmmkfckaaGreat
open Go.RowKit FP

end Go.Proofs.YtnbkbnbmmkfckaaGreat

namespace Go.Proofs.YtnbkbnbmmkfckaaGreat
open Go.RowKit FP

end Go.Proofs.YtnbkbnbmmkfckaaGreat
