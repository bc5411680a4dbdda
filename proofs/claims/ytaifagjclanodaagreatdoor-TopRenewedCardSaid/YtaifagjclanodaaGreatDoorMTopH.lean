/- The row of TopRenewed: what is reckoned of the program. -/
import Derived.Test.YtaifagjclanodaaGreatDoorCards
import Derived.Test.YtaifagjclanodaaGreatDoorTie
import Derived.Test.YtaifagjclanodaaGreatDoorMBase
import Derived.SevenTiedAt
set_option maxRecDepth 100000
namespace Go.Proofs.YtaifagjclanodaaGreatDoor
theorem topRenewed_closed:joinedFacts Tryz.pinned.checked.prog 3 Tryz.f3 Rows.topRenewedSpec Rows.topRenewedRow=true:=Cp (by kernel_rfl)
