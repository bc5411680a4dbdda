/- Package program: question, where it refuses. Package program: question, where it answers. Package program: Accepts and Refuses. -/
import Derived.Test.YtnbkbnbmmkfckaaGreatMProA
import Derived.Test.YtnbkbnbmmkfckaaGreatMDeaN
import Derived.Test.YtnbkbnbmmkfckaaGreatMRegIn
import Derived.Test.YtnbkbnbmmkfckaaGreatMSane
import Derived.Deep.CutRange
import Derived.Deep.DeepCutAuto
namespace Go.Proofs.YtnbkbnbmmkfckaaGreat
open Go.RowKit FP

end Go.Proofs.YtnbkbnbmmkfckaaGreat

namespace Go.Proofs.YtnbkbnbmmkfckaaGreat
open Go.RowKit FP

attribute [local go_sem] Oper.semAt_some

end Go.Proofs.YtnbkbnbmmkfckaaGreat

namespace Go.Proofs.YtnbkbnbmmkfckaaGreat
open Go.RowKit FP

end Go.Proofs.YtnbkbnbmmkfckaaGreat
