/- The row of KeygenQualifiedSpec. -/
import Derived.Test.YtggnipkfliompaaGreatDoorMKqF
import Derived.Test.YtggnipkfliompaaGreatDoorMKqH
import Derived.Test.YtggnipkfliompaaGreatDoorCards
import Derived.Test.YtggnipkfliompaaGreatDoorTie
import Derived.SevenTiedAt
set_option maxRecDepth 100000
namespace Go.Proofs.YtggnipkfliompaaGreatDoor
open Go.ChangeShapes Go.WideShapes Go.ChangeAt Go.RowKit Go.Deep
theorem keygenQualifiedSpec_row:Rows.KeygenQualifiedSpecSaid:=
 OpenClaim.holds_of_wide 8 Tryz.f8 rfl rfl rfl rfl rfl rfl rfl ⟨rfl,rfl,rfl,rfl,rfl⟩ rfl rfl rfl rfl rfl (by kernel_rfl) Tryz.func8 keygenQualifiedSpec_closed
  (of_decide_eq_true (by kernel_rfl)) (by unfold Func.isWrapper; first | (rw [if_pos (by decide +kernel)]; kernel_rfl) | (rw [if_neg (by decide +kernel)]; exact ⟨rfl,rfl⟩))
  (fun os started H enc _ => keygenQualifiedSpec_lifted os started H enc)
end Go.Proofs.YtggnipkfliompaaGreatDoor
