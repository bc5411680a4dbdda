/- The row of TopRenewed. -/
import Derived.Test.YtaifagjclanodaaGreatDoorMTopF
import Derived.Test.YtaifagjclanodaaGreatDoorMTopH
set_option maxRecDepth 100000
namespace Go.Proofs.YtaifagjclanodaaGreatDoor
open Go.Proofs.Tryz
open Go.ChangeShapes Go.WideShapes Go.ChangeAt Go.RowKit Go.Deep
theorem topRenewed_row:Rows.TopRenewedSaid:=
 OpenClaim.holds_of_wide 3 Tryz.f3 rfl rfl rfl rfl rfl rfl rfl ⟨rfl,rfl,rfl,rfl,rfl⟩ rfl rfl rfl rfl rfl (by kernel_rfl) func3 topRenewed_closed
  (Cp (by kernel_rfl)) (by unfold Func.isWrapper;first|(rw[aD (by decide +kernel)];kernel_rfl)|(rw[aA (by decide +kernel)];exact⟨rfl,rfl⟩))
  (λc d a b _=>topRenewed_lifted c d a b)
