/- slices.BinarySearch of a list that rises. Package program: the rows of people. -/
import Derived.Test.YtnbkbnbmmkfckaaGreatMInB
import Derived.Test.YtnbkbnbmmkfckaaGreatMLinM
import Derived.Test.YtnbkbnbmmkfckaaGreatMRegIn
import Derived.Test.YtnbkbnbmmkfckaaGreatMRange4
import Derived.Test.YtnbkbnbmmkfckaaGreatMDeaD
namespace Go.Proofs.YtnbkbnbmmkfckaaGreat
open Go.RowKit

end Go.Proofs.YtnbkbnbmmkfckaaGreat

namespace Go.Proofs.YtnbkbnbmmkfckaaGreat
open Go.RowKit FP

attribute [local go_sem] Oper.semAt_some

end Go.Proofs.YtnbkbnbmmkfckaaGreat
