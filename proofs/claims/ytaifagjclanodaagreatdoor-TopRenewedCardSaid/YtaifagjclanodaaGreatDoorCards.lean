/-
  DERIVED. GIVEN WITH THE SEED: THE CARDS: each row of YtaifagjclanodaaGreatDoorRows.lean that lists a variable, with what it lists TIED to the program's text (the seventh form; the later family's looks); each row that meets fmt, with fmt's text TOLD by the authors' own Lean function (tested against real Go, not proved from fmt's source: count such statements apart). THE CARD IS WHAT COUNTS. Prove the row's statement (the work); the ties are given (YtaifagjclanodaaGreatDoorTie.lean); close each card by the builder's one call (the guide's Derived/Test/ToyasCard.lean, 'card_holds'). Laid BY PROGRAM, IN A SANDBOX (cutbox-door.mjs). By AI agents, Wed Nov 11 2026. No macro, syntax, notation, axiom, sorry.
-/
import Derived.Test.YtaifagjclanodaaGreatDoorRows
import GoSem.ClaimSeven
namespace Go.Proofs.YtaifagjclanodaaGreatDoor
namespace Rows

/-- THE TIED CARD OF 'signatorytop.TopRenewed'. -/
def topRenewedCard : Claim7 := { stood := { row := topRenewedRow, standIns := [], harness := (true, "29427e1419f4c2645ace47a12283e9a4a6d8e6bd22c0b9e2b4cffbbaf3feb889"), looks := true }, kinds := [], alts := [], laidByText := true, laidKinds := [.data, .data], laidTests := true, laidLooks := .later }
def TopRenewedCardSaid : Prop := Claim7.holds Tryz.pinned (.plain (OpenSpec.ofChange topRenewedSpec)) topRenewedCard

/-- THE SECOND FORM's CARD OF 'signatorytop.TopRenewed'. -/
def topRenewedUptoCard : Claim7 := { stood := { row := topRenewedUptoRow, standIns := [], harness := (true, "29427e1419f4c2645ace47a12283e9a4a6d8e6bd22c0b9e2b4cffbbaf3feb889"), looks := true }, kinds := [], alts := [], laidByText := true, laidKinds := [.data, .data], laidTests := true, laidLooks := .later }
def TopRenewedUptoCardSaid : Prop := Claim7.holds Tryz.pinned (.plain (OpenSpec.upto topRenewedSpec)) topRenewedUptoCard
end Rows
end Go.Proofs.YtaifagjclanodaaGreatDoor
