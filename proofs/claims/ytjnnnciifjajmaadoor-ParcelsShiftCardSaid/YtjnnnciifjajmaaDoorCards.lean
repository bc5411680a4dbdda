/-
  DERIVED. GIVEN WITH THE SEED: THE CARDS: each row of YtjnnnciifjajmaaDoorRows.lean that lists a variable, with what it lists TIED to the program's text (the seventh form; the later family's looks); each row that meets fmt, with fmt's text TOLD by the authors' own Lean function (tested against real Go, not proved from fmt's source: count such statements apart). THE CARD IS WHAT COUNTS. Prove the row's statement (the work); the ties are given (YtjnnnciifjajmaaDoorTie.lean); close each card by the builder's one call (the guide's Derived/Test/ToyasCard.lean, 'card_holds'). Laid BY PROGRAM, IN A SANDBOX (cutbox-door.mjs). By AI agents, Wed Nov 11 2026. No macro, syntax, notation, axiom, sorry.
-/
import Derived.Test.YtjnnnciifjajmaaDoorRows
import GoSem.ClaimSeven
namespace Go.Proofs.YtjnnnciifjajmaaDoor
namespace Rows

/-- THE TIED CARD OF 'signatorylaw12.EqualSpec'. -/
def equalSpecCard : Claim7 := { stood := { row := equalSpecRow, standIns := [], harness := (true, "e4d6223c1eb23ea99661ee6064241003665caf667bde3457c40149245a96fe9c"), looks := false }, kinds := [], alts := [], laidByText := true, laidKinds := [.data, .data], laidTests := true, laidLooks := .later }
def EqualSpecCardSaid : Prop := Claim7.holds Tryd.pinned (.plain (OpenSpec.ofChange equalSpecSpec)) equalSpecCard

/-- THE TIED CARD OF 'signatorylaw35.ParcelsSpec'. -/
def parcelsSpecCard : Claim7 := { stood := { row := parcelsSpecRow, standIns := [], harness := (true, "e4d6223c1eb23ea99661ee6064241003665caf667bde3457c40149245a96fe9c"), looks := false }, kinds := [], alts := [], laidByText := true, laidKinds := [.data, .data], laidTests := true, laidLooks := .later }
def ParcelsSpecCardSaid : Prop := Claim7.holds Tryd.pinned (.plain (OpenSpec.ofChange parcelsSpecSpec)) parcelsSpecCard

/-- THE TIED CARD OF 'signatorylaw35.ParcelsBack'. -/
def parcelsBackCard : Claim7 := { stood := { row := parcelsBackRow, standIns := [], harness := (true, "e4d6223c1eb23ea99661ee6064241003665caf667bde3457c40149245a96fe9c"), looks := false }, kinds := [], alts := [], laidByText := true, laidKinds := [.data, .data], laidTests := true, laidLooks := .later }
def ParcelsBackCardSaid : Prop := Claim7.holds Tryd.pinned (.plain (OpenSpec.ofChange parcelsBackSpec)) parcelsBackCard

/-- THE TIED CARD OF 'signatorylaw35.ParcelsOpenSpec'. -/
def parcelsOpenSpecCard : Claim7 := { stood := { row := parcelsOpenSpecRow, standIns := [], harness := (true, "e4d6223c1eb23ea99661ee6064241003665caf667bde3457c40149245a96fe9c"), looks := false }, kinds := [], alts := [], laidByText := true, laidKinds := [.data, .data], laidTests := true, laidLooks := .later }
def ParcelsOpenSpecCardSaid : Prop := Claim7.holds Tryd.pinned (.plain (OpenSpec.ofChange parcelsOpenSpecSpec)) parcelsOpenSpecCard

/-- THE TIED CARD OF 'signatorylaw35.ParcelsShift'. -/
def parcelsShiftCard : Claim7 := { stood := { row := parcelsShiftRow, standIns := [], harness := (true, "e4d6223c1eb23ea99661ee6064241003665caf667bde3457c40149245a96fe9c"), looks := false }, kinds := [], alts := [], laidByText := true, laidKinds := [.data, .data], laidTests := true, laidLooks := .later }
def ParcelsShiftCardSaid : Prop := Claim7.holds Tryd.pinned (.plain (OpenSpec.ofChange parcelsShiftSpec)) parcelsShiftCard

/-- THE TIED CARD OF 'signatorylaw35.ParcelsPoints'. -/
def parcelsPointsCard : Claim7 := { stood := { row := parcelsPointsRow, standIns := [], harness := (true, "e4d6223c1eb23ea99661ee6064241003665caf667bde3457c40149245a96fe9c"), looks := false }, kinds := [], alts := [], laidByText := true, laidKinds := [.data, .data], laidTests := true, laidLooks := .later }
def ParcelsPointsCardSaid : Prop := Claim7.holds Tryd.pinned (.plain (OpenSpec.ofChange parcelsPointsSpec)) parcelsPointsCard

/-- THE TIED CARD OF 'signatorylaw35.ParcelsRevealed'. -/
def parcelsRevealedCard : Claim7 := { stood := { row := parcelsRevealedRow, standIns := [], harness := (true, "e4d6223c1eb23ea99661ee6064241003665caf667bde3457c40149245a96fe9c"), looks := false }, kinds := [], alts := [], laidByText := true, laidKinds := [.data, .data], laidTests := true, laidLooks := .later }
def ParcelsRevealedCardSaid : Prop := Claim7.holds Tryd.pinned (.plain (OpenSpec.ofChange parcelsRevealedSpec)) parcelsRevealedCard

/-- THE SECOND FORM's CARD OF 'signatorylaw12.EqualSpec'. -/
def equalSpecUptoCard : Claim7 := { stood := { row := equalSpecUptoRow, standIns := [], harness := (true, "e4d6223c1eb23ea99661ee6064241003665caf667bde3457c40149245a96fe9c"), looks := false }, kinds := [], alts := [], laidByText := true, laidKinds := [.data, .data], laidTests := true, laidLooks := .later }
def EqualSpecUptoCardSaid : Prop := Claim7.holds Tryd.pinned (.plain (OpenSpec.upto equalSpecSpec)) equalSpecUptoCard

/-- THE SECOND FORM's CARD OF 'signatorylaw35.ParcelsSpec'. -/
def parcelsSpecUptoCard : Claim7 := { stood := { row := parcelsSpecUptoRow, standIns := [], harness := (true, "e4d6223c1eb23ea99661ee6064241003665caf667bde3457c40149245a96fe9c"), looks := false }, kinds := [], alts := [], laidByText := true, laidKinds := [.data, .data], laidTests := true, laidLooks := .later }
def ParcelsSpecUptoCardSaid : Prop := Claim7.holds Tryd.pinned (.plain (OpenSpec.upto parcelsSpecSpec)) parcelsSpecUptoCard

/-- THE SECOND FORM's CARD OF 'signatorylaw35.ParcelsBack'. -/
def parcelsBackUptoCard : Claim7 := { stood := { row := parcelsBackUptoRow, standIns := [], harness := (true, "e4d6223c1eb23ea99661ee6064241003665caf667bde3457c40149245a96fe9c"), looks := false }, kinds := [], alts := [], laidByText := true, laidKinds := [.data, .data], laidTests := true, laidLooks := .later }
def ParcelsBackUptoCardSaid : Prop := Claim7.holds Tryd.pinned (.plain (OpenSpec.upto parcelsBackSpec)) parcelsBackUptoCard

/-- THE SECOND FORM's CARD OF 'signatorylaw35.ParcelsOpenSpec'. -/
def parcelsOpenSpecUptoCard : Claim7 := { stood := { row := parcelsOpenSpecUptoRow, standIns := [], harness := (true, "e4d6223c1eb23ea99661ee6064241003665caf667bde3457c40149245a96fe9c"), looks := false }, kinds := [], alts := [], laidByText := true, laidKinds := [.data, .data], laidTests := true, laidLooks := .later }
def ParcelsOpenSpecUptoCardSaid : Prop := Claim7.holds Tryd.pinned (.plain (OpenSpec.upto parcelsOpenSpecSpec)) parcelsOpenSpecUptoCard

/-- THE SECOND FORM's CARD OF 'signatorylaw35.ParcelsShift'. -/
def parcelsShiftUptoCard : Claim7 := { stood := { row := parcelsShiftUptoRow, standIns := [], harness := (true, "e4d6223c1eb23ea99661ee6064241003665caf667bde3457c40149245a96fe9c"), looks := false }, kinds := [], alts := [], laidByText := true, laidKinds := [.data, .data], laidTests := true, laidLooks := .later }
def ParcelsShiftUptoCardSaid : Prop := Claim7.holds Tryd.pinned (.plain (OpenSpec.upto parcelsShiftSpec)) parcelsShiftUptoCard

/-- THE SECOND FORM's CARD OF 'signatorylaw35.ParcelsPoints'. -/
def parcelsPointsUptoCard : Claim7 := { stood := { row := parcelsPointsUptoRow, standIns := [], harness := (true, "e4d6223c1eb23ea99661ee6064241003665caf667bde3457c40149245a96fe9c"), looks := false }, kinds := [], alts := [], laidByText := true, laidKinds := [.data, .data], laidTests := true, laidLooks := .later }
def ParcelsPointsUptoCardSaid : Prop := Claim7.holds Tryd.pinned (.plain (OpenSpec.upto parcelsPointsSpec)) parcelsPointsUptoCard

/-- THE SECOND FORM's CARD OF 'signatorylaw35.ParcelsRevealed'. -/
def parcelsRevealedUptoCard : Claim7 := { stood := { row := parcelsRevealedUptoRow, standIns := [], harness := (true, "e4d6223c1eb23ea99661ee6064241003665caf667bde3457c40149245a96fe9c"), looks := false }, kinds := [], alts := [], laidByText := true, laidKinds := [.data, .data], laidTests := true, laidLooks := .later }
def ParcelsRevealedUptoCardSaid : Prop := Claim7.holds Tryd.pinned (.plain (OpenSpec.upto parcelsRevealedSpec)) parcelsRevealedUptoCard
end Rows
end Go.Proofs.YtjnnnciifjajmaaDoor
