/-
  DERIVED. GIVEN WITH THE SEED: THE CARDS: each row of YtggnipkfliompaaDoorRows.lean that lists a variable, with what it lists TIED to the program's text (the seventh form; the later family's looks); each row that meets fmt, with fmt's text TOLD by the authors' own Lean function (tested against real Go, not proved from fmt's source: count such statements apart). THE CARD IS WHAT COUNTS. Prove the row's statement (the work); the ties are given (YtggnipkfliompaaDoorTie.lean); close each card by the builder's one call (the guide's Derived/Test/ToyasCard.lean, 'card_holds'). Laid BY PROGRAM, IN A SANDBOX (cutbox-door.mjs). By AI agents, Wed Nov 11 2026. No macro, syntax, notation, axiom, sorry.
-/
import Derived.Test.YtggnipkfliompaaDoorRows
import GoSem.ClaimSeven
namespace Go.Proofs.YtggnipkfliompaaDoor
namespace Rows

/-- THE TIED CARD OF 'signatorylaw36.ComplaintsOther'. -/
def complaintsOtherCard : Claim7 := { stood := { row := complaintsOtherRow, standIns := [], harness := (true, "9239f3a13bd8860b6b5b24f6d62ffc863633fd69e1d5b10b0a373debd3657e70"), looks := true }, kinds := [], alts := [], laidByText := true, laidKinds := [.data, .data], laidTests := true, laidLooks := .later }
def ComplaintsOtherCardSaid : Prop := Claim7.holds Tryd.pinned (.plain (OpenSpec.ofChange complaintsOtherSpec)) complaintsOtherCard

/-- THE SECOND FORM's CARD OF 'signatorylaw36.ComplaintsOther'. -/
def complaintsOtherUptoCard : Claim7 := { stood := { row := complaintsOtherUptoRow, standIns := [], harness := (true, "9239f3a13bd8860b6b5b24f6d62ffc863633fd69e1d5b10b0a373debd3657e70"), looks := true }, kinds := [], alts := [], laidByText := true, laidKinds := [.data, .data], laidTests := true, laidLooks := .later }
def ComplaintsOtherUptoCardSaid : Prop := Claim7.holds Tryd.pinned (.plain (OpenSpec.upto complaintsOtherSpec)) complaintsOtherUptoCard
end Rows
end Go.Proofs.YtggnipkfliompaaDoor
