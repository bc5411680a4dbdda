/-
  DERIVED. GIVEN WITH THE SEED: THE CARDS: each row of YtjljfjebbehebaaDoorRows.lean that lists a variable, with what it lists TIED to the program's text (the seventh form; the later family's looks); each row that meets fmt, with fmt's text TOLD by the authors' own Lean function (tested against real Go, not proved from fmt's source: count such statements apart). THE CARD IS WHAT COUNTS. Prove the row's statement (the work); the ties are given (YtjljfjebbehebaaDoorTie.lean); close each card by the builder's one call (the guide's Derived/Test/ToyasCard.lean, 'card_holds'). Laid BY PROGRAM, IN A SANDBOX (cutbox-door.mjs). By AI agents, Wed Nov 11 2026. No macro, syntax, notation, axiom, sorry.
-/
import Derived.Test.YtjljfjebbehebaaDoorRows
import GoSem.ClaimSeven
namespace Go.Proofs.YtjljfjebbehebaaDoor
namespace Rows

/-- THE TIED CARD OF 'signatorylaw12.EqualSpec'. -/
def equalSpecCard : Claim7 := { stood := { row := equalSpecRow, standIns := [], harness := (true, "e5c3eaed64692b925129e84609ae864933b1cc425644916ea3c162c57d6c9425"), looks := false }, kinds := [], alts := [], laidByText := true, laidKinds := [.data, .data], laidTests := true, laidLooks := .later }
def EqualSpecCardSaid : Prop := Claim7.holds Tryd.pinned (.plain (OpenSpec.ofChange equalSpecSpec)) equalSpecCard

/-- THE TIED CARD OF 'signatorylaw12.EqualSound'. -/
def equalSoundCard : Claim7 := { stood := { row := equalSoundRow, standIns := [], harness := (true, "e5c3eaed64692b925129e84609ae864933b1cc425644916ea3c162c57d6c9425"), looks := false }, kinds := [], alts := [], laidByText := true, laidKinds := [.data, .data], laidTests := true, laidLooks := .later }
def EqualSoundCardSaid : Prop := Claim7.holds Tryd.pinned (.plain (OpenSpec.ofChange equalSoundSpec)) equalSoundCard

/-- THE TIED CARD OF 'signatorylaw12.EqualProves'. -/
def equalProvesCard : Claim7 := { stood := { row := equalProvesRow, standIns := [], harness := (true, "e5c3eaed64692b925129e84609ae864933b1cc425644916ea3c162c57d6c9425"), looks := false }, kinds := [], alts := [], laidByText := true, laidKinds := [.data, .data], laidTests := true, laidLooks := .later }
def EqualProvesCardSaid : Prop := Claim7.holds Tryd.pinned (.plain (OpenSpec.ofChange equalProvesSpec)) equalProvesCard

/-- THE TIED CARD OF 'signatorylaw12.EqualProduct'. -/
def equalProductCard : Claim7 := { stood := { row := equalProductRow, standIns := [], harness := (true, "e5c3eaed64692b925129e84609ae864933b1cc425644916ea3c162c57d6c9425"), looks := false }, kinds := [], alts := [], laidByText := true, laidKinds := [.data, .data], laidTests := true, laidLooks := .later }
def EqualProductCardSaid : Prop := Claim7.holds Tryd.pinned (.plain (OpenSpec.ofChange equalProductSpec)) equalProductCard

/-- THE TIED CARD OF 'signatorylaw12.EqualHash'. -/
def equalHashCard : Claim7 := { stood := { row := equalHashRow, standIns := [], harness := (true, "e5c3eaed64692b925129e84609ae864933b1cc425644916ea3c162c57d6c9425"), looks := false }, kinds := [], alts := [], laidByText := true, laidKinds := [.data, .data], laidTests := true, laidLooks := .later }
def EqualHashCardSaid : Prop := Claim7.holds Tryd.pinned (.plain (OpenSpec.ofChange equalHashSpec)) equalHashCard

/-- THE SECOND FORM's CARD OF 'signatorylaw12.EqualSpec'. -/
def equalSpecUptoCard : Claim7 := { stood := { row := equalSpecUptoRow, standIns := [], harness := (true, "e5c3eaed64692b925129e84609ae864933b1cc425644916ea3c162c57d6c9425"), looks := false }, kinds := [], alts := [], laidByText := true, laidKinds := [.data, .data], laidTests := true, laidLooks := .later }
def EqualSpecUptoCardSaid : Prop := Claim7.holds Tryd.pinned (.plain (OpenSpec.upto equalSpecSpec)) equalSpecUptoCard

/-- THE SECOND FORM's CARD OF 'signatorylaw12.EqualSound'. -/
def equalSoundUptoCard : Claim7 := { stood := { row := equalSoundUptoRow, standIns := [], harness := (true, "e5c3eaed64692b925129e84609ae864933b1cc425644916ea3c162c57d6c9425"), looks := false }, kinds := [], alts := [], laidByText := true, laidKinds := [.data, .data], laidTests := true, laidLooks := .later }
def EqualSoundUptoCardSaid : Prop := Claim7.holds Tryd.pinned (.plain (OpenSpec.upto equalSoundSpec)) equalSoundUptoCard

/-- THE SECOND FORM's CARD OF 'signatorylaw12.EqualProves'. -/
def equalProvesUptoCard : Claim7 := { stood := { row := equalProvesUptoRow, standIns := [], harness := (true, "e5c3eaed64692b925129e84609ae864933b1cc425644916ea3c162c57d6c9425"), looks := false }, kinds := [], alts := [], laidByText := true, laidKinds := [.data, .data], laidTests := true, laidLooks := .later }
def EqualProvesUptoCardSaid : Prop := Claim7.holds Tryd.pinned (.plain (OpenSpec.upto equalProvesSpec)) equalProvesUptoCard

/-- THE SECOND FORM's CARD OF 'signatorylaw12.EqualProduct'. -/
def equalProductUptoCard : Claim7 := { stood := { row := equalProductUptoRow, standIns := [], harness := (true, "e5c3eaed64692b925129e84609ae864933b1cc425644916ea3c162c57d6c9425"), looks := false }, kinds := [], alts := [], laidByText := true, laidKinds := [.data, .data], laidTests := true, laidLooks := .later }
def EqualProductUptoCardSaid : Prop := Claim7.holds Tryd.pinned (.plain (OpenSpec.upto equalProductSpec)) equalProductUptoCard

/-- THE SECOND FORM's CARD OF 'signatorylaw12.EqualHash'. -/
def equalHashUptoCard : Claim7 := { stood := { row := equalHashUptoRow, standIns := [], harness := (true, "e5c3eaed64692b925129e84609ae864933b1cc425644916ea3c162c57d6c9425"), looks := false }, kinds := [], alts := [], laidByText := true, laidKinds := [.data, .data], laidTests := true, laidLooks := .later }
def EqualHashUptoCardSaid : Prop := Claim7.holds Tryd.pinned (.plain (OpenSpec.upto equalHashSpec)) equalHashUptoCard
end Rows
end Go.Proofs.YtjljfjebbehebaaDoor
