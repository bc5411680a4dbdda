/- Package rebuild and its reference: numbers, sums. Package rebuild: helpers, collected. Package rebuild: Plan. -/
import Derived.Test.YtnbkbnbmmkfckaaMRdE
import Derived.Test.YtnbkbnbmmkfckaaMRbA
import Derived.Test.YtnbkbnbmmkfckaaMRange4
import Derived.Test.YtnbkbnbmmkfckaaMInB
import Derived.Test.YtnbkbnbmmkfckaaMDeaN
import Derived.Test.YtnbkbnbmmkfckaaMSane
import Derived.Laws.EntriesVeiled
namespace Go.Proofs.Ytnbkbnbmmkfckaa
open Go.RowKit FP

end Go.Proofs.Ytnbkbnbmmkfckaa

namespace Go.Proofs.Ytnbkbnbmmkfckaa
open Go.RowKit FP

attribute [local go_sem] Oper.semAt_some

end Go.Proofs.Ytnbkbnbmmkfckaa

namespace Go.Proofs.Ytnbkbnbmmkfckaa
open Go.RowKit FP

end Go.Proofs.Ytnbkbnbmmkfckaa
