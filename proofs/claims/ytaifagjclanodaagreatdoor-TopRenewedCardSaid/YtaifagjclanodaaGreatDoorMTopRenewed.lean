/- TopRenewed: one key, dealt, renewed, rebuilt and moved. -/
import Derived.Test.YtaifagjclanodaaGreatDoorMTopG
set_option maxRecDepth 100000
namespace Go.Proofs.YtaifagjclanodaaGreatDoor
open Go.Proofs.Tryz
open Go.ChangeShapes Go.WideShapes Go.ChangeAt Go.RowKit Go.Deep
theorem topRenewed_holds:Rows.TopRenewedCardSaid:=
 Claim7.holds_tied_plain_at .later [] [.data,.data] true Rows.topRenewedCard.stood.harness true
  topRenewed_row (λ_ b=>by cases b) (by kernel_rfl) (λ_ b=>by cases b) topRenewed_row_tie rfl ⟨rfl,rfl⟩ (by kernel_rfl) rfl
  (λe f h i=>by
   obtain rfl : e = 3 := Option.some.inj ((show prog.funcNamed "signatory/signatorytop.TopRenewed" = some 3 by kernel_rfl).symm.trans h) |>.symm
   obtain rfl:f = Tryz.f3:=(Option.some.inj (func3.symm.trans i)).symm;exact⟨by kernel_rfl,λj a c=>by
    rw[params3]at c;have d:(#[25,25,5,5,5,26,26,27,28]:Array TypeId).all (λa=>!prog.wantsStandIn a)=true:=by kernel_rfl
    have:=Xn.1 d a (Array.mem_of_getElem? c);have g:prog.wantsStandIn a=false:=by simpa using this
    exact g⟩)
  (by kernel_rfl)
#print axioms topRenewed_holds
