/- The row of KeygenQualifiedSpec: what is reckoned of the program. -/
import Derived.Test.YtggnipkfliompaaGreatDoorCards
import Derived.Test.YtggnipkfliompaaGreatDoorTie
import Derived.SevenTiedAt
set_option maxRecDepth 100000
namespace Go.Proofs.YtggnipkfliompaaGreatDoor
theorem keygenQualifiedSpec_closed:joinedFacts Tryz.pinned.checked.prog 8 Tryz.f8 Rows.keygenQualifiedSpecSpec Rows.keygenQualifiedSpecRow = true:=of_decide_eq_true (by kernel_rfl)
end Go.Proofs.YtggnipkfliompaaGreatDoor
