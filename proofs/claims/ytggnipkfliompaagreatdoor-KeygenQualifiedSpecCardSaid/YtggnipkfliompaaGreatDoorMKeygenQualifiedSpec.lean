/- The row and the card of KeygenQualifiedSpec. -/
import Derived.Test.YtggnipkfliompaaGreatDoorMKqG
import Derived.Test.YtggnipkfliompaaGreatDoorCards
import Derived.Test.YtggnipkfliompaaGreatDoorTie
import Derived.SevenTiedAt
set_option maxRecDepth 100000
namespace Go.Proofs.YtggnipkfliompaaGreatDoor
open Go.ChangeShapes Go.WideShapes Go.ChangeAt Go.RowKit Go.Deep
theorem keygenQualifiedSpec_holds:Rows.KeygenQualifiedSpecCardSaid:=
 Claim7.holds_tied_plain_at .later [] [.data,.data] true Rows.keygenQualifiedSpecCard.stood.harness true
  keygenQualifiedSpec_row (fun _ h => by cases h) (by kernel_rfl) (fun _ h => by cases h) keygenQualifiedSpec_row_tie rfl ⟨rfl,rfl⟩ (by kernel_rfl) rfl
  (fun f fn hf hfn => by
   obtain rfl : f = 8 := Option.some.inj ((show Tryz.prog.funcNamed "signatory/signatorylaw37.KeygenQualifiedSpec" = some 8 by kernel_rfl).symm.trans hf) |>.symm
   obtain rfl:fn = Tryz.f8:=(Option.some.inj (Tryz.func8.symm.trans hfn)).symm
   exact ⟨by kernel_rfl,fun j t ht => by
    rw [Tryz.params8] at ht
    have hall:(#[25,23,55,62,3,3,23]:Array TypeId).all (fun t => !Tryz.prog.wantsStandIn t) = true:=by kernel_rfl
    have:=Array.all_eq_true_iff_forall_mem.1 hall t (Array.mem_of_getElem? ht)
    have h2:Tryz.prog.wantsStandIn t = false:=by simpa using this
    exact h2⟩)
  (by kernel_rfl)
#print axioms keygenQualifiedSpec_holds
end Go.Proofs.YtggnipkfliompaaGreatDoor
