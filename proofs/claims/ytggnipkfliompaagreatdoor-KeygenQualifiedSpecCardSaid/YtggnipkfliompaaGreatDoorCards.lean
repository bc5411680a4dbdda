/-
  DERIVED. GIVEN WITH THE SEED: THE CARDS: each row of YtggnipkfliompaaGreatDoorRows.lean that lists a variable, with what it lists TIED to the program's text (the seventh form; the later family's looks); each row that meets fmt, with fmt's text TOLD by the authors' own Lean function (tested against real Go, not proved from fmt's source: count such statements apart). THE CARD IS WHAT COUNTS. Prove the row's statement (the work); the ties are given (YtggnipkfliompaaGreatDoorTie.lean); close each card by the builder's one call (the guide's Derived/Test/ToyasCard.lean, 'card_holds'). Laid BY PROGRAM, IN A SANDBOX (cutbox-door.mjs). By AI agents, Wed Nov 11 2026. No macro, syntax, notation, axiom, sorry.
-/
import Derived.Test.YtggnipkfliompaaGreatDoorRows
import GoSem.ClaimSeven
namespace Go.Proofs.YtggnipkfliompaaGreatDoor
namespace Rows

/-- THE TIED CARD OF 'signatorylaw36.ComplaintsSpec'. -/
def complaintsSpecCard : Claim7 := { stood := { row := complaintsSpecRow, standIns := [], harness := (true, "5926c044951a7acf3c57ca68050af3a68d257996d348be706c4f3c3d2680c43e"), looks := true }, kinds := [], alts := [], laidByText := true, laidKinds := [.data, .data], laidTests := true, laidLooks := .later }
def ComplaintsSpecCardSaid : Prop := Claim7.holds Tryz.pinned (.plain (OpenSpec.ofChange complaintsSpecSpec)) complaintsSpecCard

/-- THE TIED CARD OF 'signatorylaw36.ComplaintsSettleSpec'. -/
def complaintsSettleSpecCard : Claim7 := { stood := { row := complaintsSettleSpecRow, standIns := [], harness := (true, "5926c044951a7acf3c57ca68050af3a68d257996d348be706c4f3c3d2680c43e"), looks := true }, kinds := [], alts := [], laidByText := true, laidKinds := [.data, .data], laidTests := true, laidLooks := .later }
def ComplaintsSettleSpecCardSaid : Prop := Claim7.holds Tryz.pinned (.plain (OpenSpec.ofChange complaintsSettleSpecSpec)) complaintsSettleSpecCard

/-- THE TIED CARD OF 'signatorylaw36.ComplaintsGuilty'. -/
def complaintsGuiltyCard : Claim7 := { stood := { row := complaintsGuiltyRow, standIns := [], harness := (true, "5926c044951a7acf3c57ca68050af3a68d257996d348be706c4f3c3d2680c43e"), looks := true }, kinds := [], alts := [], laidByText := true, laidKinds := [.data, .data], laidTests := true, laidLooks := .later }
def ComplaintsGuiltyCardSaid : Prop := Claim7.holds Tryz.pinned (.plain (OpenSpec.ofChange complaintsGuiltySpec)) complaintsGuiltyCard

/-- THE TIED CARD OF 'signatorylaw36.ComplaintsHonest'. -/
def complaintsHonestCard : Claim7 := { stood := { row := complaintsHonestRow, standIns := [], harness := (true, "5926c044951a7acf3c57ca68050af3a68d257996d348be706c4f3c3d2680c43e"), looks := true }, kinds := [], alts := [], laidByText := true, laidKinds := [.data, .data], laidTests := true, laidLooks := .later }
def ComplaintsHonestCardSaid : Prop := Claim7.holds Tryz.pinned (.plain (OpenSpec.ofChange complaintsHonestSpec)) complaintsHonestCard

/-- THE TIED CARD OF 'signatorylaw37.KeygenSpec'. -/
def keygenSpecCard : Claim7 := { stood := { row := keygenSpecRow, standIns := [], harness := (true, "5926c044951a7acf3c57ca68050af3a68d257996d348be706c4f3c3d2680c43e"), looks := true }, kinds := [], alts := [], laidByText := true, laidKinds := [.data, .data], laidTests := true, laidLooks := .later }
def KeygenSpecCardSaid : Prop := Claim7.holds Tryz.pinned (.plain (OpenSpec.ofChange keygenSpecSpec)) keygenSpecCard

/-- THE TIED CARD OF 'signatorylaw37.KeygenQualifiedSpec'. -/
def keygenQualifiedSpecCard : Claim7 := { stood := { row := keygenQualifiedSpecRow, standIns := [], harness := (true, "5926c044951a7acf3c57ca68050af3a68d257996d348be706c4f3c3d2680c43e"), looks := true }, kinds := [], alts := [], laidByText := true, laidKinds := [.data, .data], laidTests := true, laidLooks := .later }
def KeygenQualifiedSpecCardSaid : Prop := Claim7.holds Tryz.pinned (.plain (OpenSpec.ofChange keygenQualifiedSpecSpec)) keygenQualifiedSpecCard

/-- THE TIED CARD OF 'signatorylaw37.KeygenHonest'. -/
def keygenHonestCard : Claim7 := { stood := { row := keygenHonestRow, standIns := [], harness := (true, "5926c044951a7acf3c57ca68050af3a68d257996d348be706c4f3c3d2680c43e"), looks := true }, kinds := [], alts := [], laidByText := true, laidKinds := [.data, .data], laidTests := true, laidLooks := .later }
def KeygenHonestCardSaid : Prop := Claim7.holds Tryz.pinned (.plain (OpenSpec.ofChange keygenHonestSpec)) keygenHonestCard

/-- THE TIED CARD OF 'signatorylaw37.KeygenOthers'. -/
def keygenOthersCard : Claim7 := { stood := { row := keygenOthersRow, standIns := [], harness := (true, "5926c044951a7acf3c57ca68050af3a68d257996d348be706c4f3c3d2680c43e"), looks := true }, kinds := [], alts := [], laidByText := true, laidKinds := [.data, .data], laidTests := true, laidLooks := .later }
def KeygenOthersCardSaid : Prop := Claim7.holds Tryz.pinned (.plain (OpenSpec.ofChange keygenOthersSpec)) keygenOthersCard

/-- THE TIED CARD OF 'signatorylaw37.KeygenFits'. -/
def keygenFitsCard : Claim7 := { stood := { row := keygenFitsRow, standIns := [], harness := (true, "5926c044951a7acf3c57ca68050af3a68d257996d348be706c4f3c3d2680c43e"), looks := true }, kinds := [], alts := [], laidByText := true, laidKinds := [.data, .data], laidTests := true, laidLooks := .later }
def KeygenFitsCardSaid : Prop := Claim7.holds Tryz.pinned (.plain (OpenSpec.ofChange keygenFitsSpec)) keygenFitsCard

/-- THE TIED CARD OF 'signatorylaw37.KeygenTogether'. -/
def keygenTogetherCard : Claim7 := { stood := { row := keygenTogetherRow, standIns := [], harness := (true, "5926c044951a7acf3c57ca68050af3a68d257996d348be706c4f3c3d2680c43e"), looks := true }, kinds := [], alts := [], laidByText := true, laidKinds := [.data, .data], laidTests := true, laidLooks := .later }
def KeygenTogetherCardSaid : Prop := Claim7.holds Tryz.pinned (.plain (OpenSpec.ofChange keygenTogetherSpec)) keygenTogetherCard

/-- THE SECOND FORM's CARD OF 'signatorylaw36.ComplaintsSpec'. -/
def complaintsSpecUptoCard : Claim7 := { stood := { row := complaintsSpecUptoRow, standIns := [], harness := (true, "5926c044951a7acf3c57ca68050af3a68d257996d348be706c4f3c3d2680c43e"), looks := true }, kinds := [], alts := [], laidByText := true, laidKinds := [.data, .data], laidTests := true, laidLooks := .later }
def ComplaintsSpecUptoCardSaid : Prop := Claim7.holds Tryz.pinned (.plain (OpenSpec.upto complaintsSpecSpec)) complaintsSpecUptoCard

/-- THE SECOND FORM's CARD OF 'signatorylaw36.ComplaintsSettleSpec'. -/
def complaintsSettleSpecUptoCard : Claim7 := { stood := { row := complaintsSettleSpecUptoRow, standIns := [], harness := (true, "5926c044951a7acf3c57ca68050af3a68d257996d348be706c4f3c3d2680c43e"), looks := true }, kinds := [], alts := [], laidByText := true, laidKinds := [.data, .data], laidTests := true, laidLooks := .later }
def ComplaintsSettleSpecUptoCardSaid : Prop := Claim7.holds Tryz.pinned (.plain (OpenSpec.upto complaintsSettleSpecSpec)) complaintsSettleSpecUptoCard

/-- THE SECOND FORM's CARD OF 'signatorylaw36.ComplaintsGuilty'. -/
def complaintsGuiltyUptoCard : Claim7 := { stood := { row := complaintsGuiltyUptoRow, standIns := [], harness := (true, "5926c044951a7acf3c57ca68050af3a68d257996d348be706c4f3c3d2680c43e"), looks := true }, kinds := [], alts := [], laidByText := true, laidKinds := [.data, .data], laidTests := true, laidLooks := .later }
def ComplaintsGuiltyUptoCardSaid : Prop := Claim7.holds Tryz.pinned (.plain (OpenSpec.upto complaintsGuiltySpec)) complaintsGuiltyUptoCard

/-- THE SECOND FORM's CARD OF 'signatorylaw36.ComplaintsHonest'. -/
def complaintsHonestUptoCard : Claim7 := { stood := { row := complaintsHonestUptoRow, standIns := [], harness := (true, "5926c044951a7acf3c57ca68050af3a68d257996d348be706c4f3c3d2680c43e"), looks := true }, kinds := [], alts := [], laidByText := true, laidKinds := [.data, .data], laidTests := true, laidLooks := .later }
def ComplaintsHonestUptoCardSaid : Prop := Claim7.holds Tryz.pinned (.plain (OpenSpec.upto complaintsHonestSpec)) complaintsHonestUptoCard

/-- THE SECOND FORM's CARD OF 'signatorylaw37.KeygenSpec'. -/
def keygenSpecUptoCard : Claim7 := { stood := { row := keygenSpecUptoRow, standIns := [], harness := (true, "5926c044951a7acf3c57ca68050af3a68d257996d348be706c4f3c3d2680c43e"), looks := true }, kinds := [], alts := [], laidByText := true, laidKinds := [.data, .data], laidTests := true, laidLooks := .later }
def KeygenSpecUptoCardSaid : Prop := Claim7.holds Tryz.pinned (.plain (OpenSpec.upto keygenSpecSpec)) keygenSpecUptoCard

/-- THE SECOND FORM's CARD OF 'signatorylaw37.KeygenQualifiedSpec'. -/
def keygenQualifiedSpecUptoCard : Claim7 := { stood := { row := keygenQualifiedSpecUptoRow, standIns := [], harness := (true, "5926c044951a7acf3c57ca68050af3a68d257996d348be706c4f3c3d2680c43e"), looks := true }, kinds := [], alts := [], laidByText := true, laidKinds := [.data, .data], laidTests := true, laidLooks := .later }
def KeygenQualifiedSpecUptoCardSaid : Prop := Claim7.holds Tryz.pinned (.plain (OpenSpec.upto keygenQualifiedSpecSpec)) keygenQualifiedSpecUptoCard

/-- THE SECOND FORM's CARD OF 'signatorylaw37.KeygenHonest'. -/
def keygenHonestUptoCard : Claim7 := { stood := { row := keygenHonestUptoRow, standIns := [], harness := (true, "5926c044951a7acf3c57ca68050af3a68d257996d348be706c4f3c3d2680c43e"), looks := true }, kinds := [], alts := [], laidByText := true, laidKinds := [.data, .data], laidTests := true, laidLooks := .later }
def KeygenHonestUptoCardSaid : Prop := Claim7.holds Tryz.pinned (.plain (OpenSpec.upto keygenHonestSpec)) keygenHonestUptoCard

/-- THE SECOND FORM's CARD OF 'signatorylaw37.KeygenOthers'. -/
def keygenOthersUptoCard : Claim7 := { stood := { row := keygenOthersUptoRow, standIns := [], harness := (true, "5926c044951a7acf3c57ca68050af3a68d257996d348be706c4f3c3d2680c43e"), looks := true }, kinds := [], alts := [], laidByText := true, laidKinds := [.data, .data], laidTests := true, laidLooks := .later }
def KeygenOthersUptoCardSaid : Prop := Claim7.holds Tryz.pinned (.plain (OpenSpec.upto keygenOthersSpec)) keygenOthersUptoCard

/-- THE SECOND FORM's CARD OF 'signatorylaw37.KeygenFits'. -/
def keygenFitsUptoCard : Claim7 := { stood := { row := keygenFitsUptoRow, standIns := [], harness := (true, "5926c044951a7acf3c57ca68050af3a68d257996d348be706c4f3c3d2680c43e"), looks := true }, kinds := [], alts := [], laidByText := true, laidKinds := [.data, .data], laidTests := true, laidLooks := .later }
def KeygenFitsUptoCardSaid : Prop := Claim7.holds Tryz.pinned (.plain (OpenSpec.upto keygenFitsSpec)) keygenFitsUptoCard

/-- THE SECOND FORM's CARD OF 'signatorylaw37.KeygenTogether'. -/
def keygenTogetherUptoCard : Claim7 := { stood := { row := keygenTogetherUptoRow, standIns := [], harness := (true, "5926c044951a7acf3c57ca68050af3a68d257996d348be706c4f3c3d2680c43e"), looks := true }, kinds := [], alts := [], laidByText := true, laidKinds := [.data, .data], laidTests := true, laidLooks := .later }
def KeygenTogetherUptoCardSaid : Prop := Claim7.holds Tryz.pinned (.plain (OpenSpec.upto keygenTogetherSpec)) keygenTogetherUptoCard
end Rows
end Go.Proofs.YtggnipkfliompaaGreatDoor
