/- The reference of rebuilding a share: Plan, Part, Finish. The reference of rebuilding a share: Finish. -/
import Derived.Test.YtnbkbnbmmkfckaaMRbF
namespace Go.Proofs.Ytnbkbnbmmkfckaa
open Go.RowKit FP

end Go.Proofs.Ytnbkbnbmmkfckaa

namespace Go.Proofs.Ytnbkbnbmmkfckaa
open Go.RowKit FP

end Go.Proofs.Ytnbkbnbmmkfckaa
