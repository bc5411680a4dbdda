/- The laws of dealing: people of bits, and the shares of people. The laws of dealing: the shares of people (the reference's Of). -/
import Derived.Test.YtnbkbnbmmkfckaaGreatMProC
import Derived.Test.YtnbkbnbmmkfckaaGreatMSuC
import Derived.Laws.Bits64b
namespace Go.Proofs.YtnbkbnbmmkfckaaGreat
open Go.RowKit FP

end Go.Proofs.YtnbkbnbmmkfckaaGreat

namespace Go.Proofs.YtnbkbnbmmkfckaaGreat
open Go.RowKit FP

end Go.Proofs.YtnbkbnbmmkfckaaGreat
