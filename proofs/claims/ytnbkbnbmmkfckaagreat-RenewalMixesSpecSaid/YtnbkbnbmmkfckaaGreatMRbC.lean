/- Package rebuild and its reference: numbers, sums. Package rebuild: helpers, collected. Package rebuild: Plan. -/
import Derived.Test.YtnbkbnbmmkfckaaGreatMRdE
import Derived.Test.YtnbkbnbmmkfckaaGreatMRbA
import Derived.Test.YtnbkbnbmmkfckaaGreatMRange4
import Derived.Test.YtnbkbnbmmkfckaaGreatMInB
import Derived.Test.YtnbkbnbmmkfckaaGreatMDeaN
import Derived.Test.YtnbkbnbmmkfckaaGreatMSane
import Derived.Laws.EntriesVeiled
namespace Go.Proofs.YtnbkbnbmmkfckaaGreat
open Go.RowKit FP

end Go.Proofs.YtnbkbnbmmkfckaaGreat

namespace Go.Proofs.YtnbkbnbmmkfckaaGreat
open Go.RowKit FP

attribute [local go_sem] Oper.semAt_some

end Go.Proofs.YtnbkbnbmmkfckaaGreat

namespace Go.Proofs.YtnbkbnbmmkfckaaGreat
open Go.RowKit FP

end Go.Proofs.YtnbkbnbmmkfckaaGreat
