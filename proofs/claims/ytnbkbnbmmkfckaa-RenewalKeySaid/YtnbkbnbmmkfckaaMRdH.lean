/- The reference of dealing: Deal, whatever comes of it. The reference of dealing: Recover, where it refuses; the append of a row in a drawn region. The reference of dealing: two rows of a call's own, side by side. -/
import Derived.Test.YtnbkbnbmmkfckaaMRdE
import Derived.Test.YtnbkbnbmmkfckaaMRegIn
namespace Go.Proofs.Ytnbkbnbmmkfckaa
open Go.RowKit FP

end Go.Proofs.Ytnbkbnbmmkfckaa

namespace Go.Proofs.Ytnbkbnbmmkfckaa
open Go.RowKit FP

end Go.Proofs.Ytnbkbnbmmkfckaa

namespace Go.Proofs.Ytnbkbnbmmkfckaa
open Go.RowKit FP

end Go.Proofs.Ytnbkbnbmmkfckaa
