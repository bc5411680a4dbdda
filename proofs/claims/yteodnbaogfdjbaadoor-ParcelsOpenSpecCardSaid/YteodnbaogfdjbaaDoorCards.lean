/-
  DERIVED. GIVEN WITH THE SEED: THE CARDS: each row of YteodnbaogfdjbaaDoorRows.lean that lists a variable, with what it lists TIED to the program's text (the seventh form; the later family's looks); each row that meets fmt, with fmt's text TOLD by the authors' own Lean function (tested against real Go, not proved from fmt's source: count such statements apart). THE CARD IS WHAT COUNTS. Prove the row's statement (the work); the ties are given (YteodnbaogfdjbaaDoorTie.lean); close each card by the builder's one call (the guide's Derived/Test/ToyasCard.lean, 'card_holds'). Laid BY PROGRAM, IN A SANDBOX (cutbox-door.mjs). By AI agents, Wed Nov 11 2026. No macro, syntax, notation, axiom, sorry.
-/
import Derived.Test.YteodnbaogfdjbaaDoorRows
import GoSem.ClaimSeven
namespace Go.Proofs.YteodnbaogfdjbaaDoor
namespace Rows

/-- THE TIED CARD OF 'signatorylaw12.EqualSpec'. -/
def equalSpecCard : Claim7 := { stood := { row := equalSpecRow, standIns := [], harness := (true, "7c22b42ebf6077d81bf2aa8dda1fdd30aa3b7c6391b3347c490baead8dc00a8b"), looks := false }, kinds := [], alts := [], laidByText := true, laidKinds := [.data, .data], laidTests := true, laidLooks := .later }
def EqualSpecCardSaid : Prop := Claim7.holds Tryd.pinned (.plain (OpenSpec.ofChange equalSpecSpec)) equalSpecCard

/-- THE TIED CARD OF 'signatorylaw35.ParcelsSpec'. -/
def parcelsSpecCard : Claim7 := { stood := { row := parcelsSpecRow, standIns := [], harness := (true, "7c22b42ebf6077d81bf2aa8dda1fdd30aa3b7c6391b3347c490baead8dc00a8b"), looks := false }, kinds := [], alts := [], laidByText := true, laidKinds := [.data, .data], laidTests := true, laidLooks := .later }
def ParcelsSpecCardSaid : Prop := Claim7.holds Tryd.pinned (.plain (OpenSpec.ofChange parcelsSpecSpec)) parcelsSpecCard

/-- THE TIED CARD OF 'signatorylaw35.ParcelsOpenSpec'. -/
def parcelsOpenSpecCard : Claim7 := { stood := { row := parcelsOpenSpecRow, standIns := [], harness := (true, "7c22b42ebf6077d81bf2aa8dda1fdd30aa3b7c6391b3347c490baead8dc00a8b"), looks := false }, kinds := [], alts := [], laidByText := true, laidKinds := [.data, .data], laidTests := true, laidLooks := .later }
def ParcelsOpenSpecCardSaid : Prop := Claim7.holds Tryd.pinned (.plain (OpenSpec.ofChange parcelsOpenSpecSpec)) parcelsOpenSpecCard

/-- THE SECOND FORM's CARD OF 'signatorylaw12.EqualSpec'. -/
def equalSpecUptoCard : Claim7 := { stood := { row := equalSpecUptoRow, standIns := [], harness := (true, "7c22b42ebf6077d81bf2aa8dda1fdd30aa3b7c6391b3347c490baead8dc00a8b"), looks := false }, kinds := [], alts := [], laidByText := true, laidKinds := [.data, .data], laidTests := true, laidLooks := .later }
def EqualSpecUptoCardSaid : Prop := Claim7.holds Tryd.pinned (.plain (OpenSpec.upto equalSpecSpec)) equalSpecUptoCard

/-- THE SECOND FORM's CARD OF 'signatorylaw35.ParcelsSpec'. -/
def parcelsSpecUptoCard : Claim7 := { stood := { row := parcelsSpecUptoRow, standIns := [], harness := (true, "7c22b42ebf6077d81bf2aa8dda1fdd30aa3b7c6391b3347c490baead8dc00a8b"), looks := false }, kinds := [], alts := [], laidByText := true, laidKinds := [.data, .data], laidTests := true, laidLooks := .later }
def ParcelsSpecUptoCardSaid : Prop := Claim7.holds Tryd.pinned (.plain (OpenSpec.upto parcelsSpecSpec)) parcelsSpecUptoCard

/-- THE SECOND FORM's CARD OF 'signatorylaw35.ParcelsOpenSpec'. -/
def parcelsOpenSpecUptoCard : Claim7 := { stood := { row := parcelsOpenSpecUptoRow, standIns := [], harness := (true, "7c22b42ebf6077d81bf2aa8dda1fdd30aa3b7c6391b3347c490baead8dc00a8b"), looks := false }, kinds := [], alts := [], laidByText := true, laidKinds := [.data, .data], laidTests := true, laidLooks := .later }
def ParcelsOpenSpecUptoCardSaid : Prop := Claim7.holds Tryd.pinned (.plain (OpenSpec.upto parcelsOpenSpecSpec)) parcelsOpenSpecUptoCard
end Rows
end Go.Proofs.YteodnbaogfdjbaaDoor
