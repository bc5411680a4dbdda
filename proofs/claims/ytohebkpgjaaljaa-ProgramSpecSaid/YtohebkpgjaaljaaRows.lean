/-
  NARROWER THAN 'FOR EVERY INPUT', by the rows' own cells (each row's printed sentence says how): ProgramSpec: loops · ProgramShape: loops · ProgramMeans: loops.
  DERIVED. THE GIVEN ROWS OF THIS SEAT. 9 by the template 'for every input the law returns true; each argument reads behind the call as it read before'; 0 by the template 'total and deterministic' (their statements: YtohebkpgjaaljaaTotals.lean).
  GIVEN WITH THE SEED: the statements are not yours to turn. If you find one false, say at which input.
  Laid BY PROGRAM, IN A SANDBOX (cutbox-rows.mjs): the forced cells as the released guide's own fill.sh prints them over the translation 92bc8430d7100e83… (all of the seat's roots in one cut). By AI agents, Wed Nov 11 2026. No macro, syntax, notation, axiom, sorry.
-/
import Derived.Test.YtohebkpgjaaljaaChecked
import GoSem.Claim
import GoSem.ClaimJoined
import GoSem.ClaimMapViews
import Derived.JoinedTies
import Derived.KernelRfl
namespace Go.Proofs.Ytohebkpgjaaljaa
/- THE CELL 'sum', in the pinned program and in every row, IS THE sha256 OF THE DUMP (.gsa) THAT YtohebkpgjaaljaaProg.lean LOADS. Nothing in Lean hashes anything: it is a label: what it is worth is what the hold of that sum in a sandbox is worth. -/
noncomputable def Try.pinned : Pinned := { name := "ytohebkpgjaaljaa", sum := "92bc8430d7100e83a3bb845bdaf0ce38cf545fabe388b7950a58edc6ba32d41b", checked := Try.checked }
namespace Rows
def none {H : Type} : Left H := { results := [], args := [] }

/-- 'signatorylaw23.ProgramSpec': WHATEVER THE INPUT: true; the input reads as it did. -/
def programSpecSpec : ChangeSpec := { name := "programSpec", fn := fun _ => fun
  | [d1, d2] => { results := [.lit (.bool true)], args := [d1, d2] }
  | _ => none }
def programSpecRow : OpenClaim := { program := "ytohebkpgjaaljaa", sum := "92bc8430d7100e83a3bb845bdaf0ce38cf545fabe388b7950a58edc6ba32d41b", func := "signatory/signatorylaw23.ProgramSpec", spec := "programSpec", unfollowed := true, recurses := true, loops := true, apart := false }
def ProgramSpecSaid : Prop := programSpecRow.holds Try.pinned (OpenSpec.ofChange programSpecSpec)

/-- ITS FALSE NEIGHBOUR: 'it returns false'. Refute it at one input. -/
def programSpecWrong : ChangeSpec := { name := "programSpec", fn := fun _ => fun
  | [d1, d2] => { results := [.lit (.bool false)], args := [d1, d2] }
  | _ => none }
def ProgramSpecWrongFalsely : Prop := programSpecRow.holds Try.pinned (OpenSpec.ofChange programSpecWrong)

/-- 'signatorylaw23.ProgramAcceptsSpec': WHATEVER THE INPUT: true; the input reads as it did. -/
def programAcceptsSpecSpec : ChangeSpec := { name := "programAcceptsSpec", fn := fun _ => fun
  | [d1, d2] => { results := [.lit (.bool true)], args := [d1, d2] }
  | _ => none }
def programAcceptsSpecRow : OpenClaim := { program := "ytohebkpgjaaljaa", sum := "92bc8430d7100e83a3bb845bdaf0ce38cf545fabe388b7950a58edc6ba32d41b", func := "signatory/signatorylaw23.ProgramAcceptsSpec", spec := "programAcceptsSpec", unfollowed := true, recurses := true, apart := false }
def ProgramAcceptsSpecSaid : Prop := programAcceptsSpecRow.holds Try.pinned (OpenSpec.ofChange programAcceptsSpecSpec)

/-- ITS FALSE NEIGHBOUR: 'it returns false'. Refute it at one input. -/
def programAcceptsSpecWrong : ChangeSpec := { name := "programAcceptsSpec", fn := fun _ => fun
  | [d1, d2] => { results := [.lit (.bool false)], args := [d1, d2] }
  | _ => none }
def ProgramAcceptsSpecWrongFalsely : Prop := programAcceptsSpecRow.holds Try.pinned (OpenSpec.ofChange programAcceptsSpecWrong)

/-- 'signatorylaw23.ProgramProves': WHATEVER THE INPUT: true; the input reads as it did. -/
def programProvesSpec : ChangeSpec := { name := "programProves", fn := fun _ => fun
  | [d1, d2] => { results := [.lit (.bool true)], args := [d1, d2] }
  | _ => none }
def programProvesRow : OpenClaim := { program := "ytohebkpgjaaljaa", sum := "92bc8430d7100e83a3bb845bdaf0ce38cf545fabe388b7950a58edc6ba32d41b", func := "signatory/signatorylaw23.ProgramProves", spec := "programProves", unfollowed := true, recurses := true, apart := false }
def ProgramProvesSaid : Prop := programProvesRow.holds Try.pinned (OpenSpec.ofChange programProvesSpec)

/-- ITS FALSE NEIGHBOUR: 'it returns false'. Refute it at one input. -/
def programProvesWrong : ChangeSpec := { name := "programProves", fn := fun _ => fun
  | [d1, d2] => { results := [.lit (.bool false)], args := [d1, d2] }
  | _ => none }
def ProgramProvesWrongFalsely : Prop := programProvesRow.holds Try.pinned (OpenSpec.ofChange programProvesWrong)

/-- 'signatorylaw23.ProgramMore': WHATEVER THE INPUT: true; the input reads as it did. -/
def programMoreSpec : ChangeSpec := { name := "programMore", fn := fun _ => fun
  | [d1, d2, d3] => { results := [.lit (.bool true)], args := [d1, d2, d3] }
  | _ => none }
def programMoreRow : OpenClaim := { program := "ytohebkpgjaaljaa", sum := "92bc8430d7100e83a3bb845bdaf0ce38cf545fabe388b7950a58edc6ba32d41b", func := "signatory/signatorylaw23.ProgramMore", spec := "programMore", unfollowed := true, recurses := true, apart := false }
def ProgramMoreSaid : Prop := programMoreRow.holds Try.pinned (OpenSpec.ofChange programMoreSpec)

/-- ITS FALSE NEIGHBOUR: 'it returns false'. Refute it at one input. -/
def programMoreWrong : ChangeSpec := { name := "programMore", fn := fun _ => fun
  | [d1, d2, d3] => { results := [.lit (.bool false)], args := [d1, d2, d3] }
  | _ => none }
def ProgramMoreWrongFalsely : Prop := programMoreRow.holds Try.pinned (OpenSpec.ofChange programMoreWrong)

/-- 'signatorylaw23.ProgramShape': WHATEVER THE INPUT: true; the input reads as it did. -/
def programShapeSpec : ChangeSpec := { name := "programShape", fn := fun _ => fun
  | [d] => { results := [.lit (.bool true)], args := [d] }
  | _ => none }
def programShapeRow : OpenClaim := { program := "ytohebkpgjaaljaa", sum := "92bc8430d7100e83a3bb845bdaf0ce38cf545fabe388b7950a58edc6ba32d41b", func := "signatory/signatorylaw23.ProgramShape", spec := "programShape", unfollowed := true, recurses := true, loops := true, apart := false }
def ProgramShapeSaid : Prop := programShapeRow.holds Try.pinned (OpenSpec.ofChange programShapeSpec)

/-- ITS FALSE NEIGHBOUR: 'it returns false'. Refute it at one input. -/
def programShapeWrong : ChangeSpec := { name := "programShape", fn := fun _ => fun
  | [d] => { results := [.lit (.bool false)], args := [d] }
  | _ => none }
def ProgramShapeWrongFalsely : Prop := programShapeRow.holds Try.pinned (OpenSpec.ofChange programShapeWrong)

/-- 'signatorylaw23.ProgramMeans': WHATEVER THE INPUT: true; the input reads as it did. -/
def programMeansSpec : ChangeSpec := { name := "programMeans", fn := fun _ => fun
  | [d1, d2] => { results := [.lit (.bool true)], args := [d1, d2] }
  | _ => none }
def programMeansRow : OpenClaim := { program := "ytohebkpgjaaljaa", sum := "92bc8430d7100e83a3bb845bdaf0ce38cf545fabe388b7950a58edc6ba32d41b", func := "signatory/signatorylaw23.ProgramMeans", spec := "programMeans", unfollowed := true, recurses := true, loops := true, apart := false }
def ProgramMeansSaid : Prop := programMeansRow.holds Try.pinned (OpenSpec.ofChange programMeansSpec)

/-- ITS FALSE NEIGHBOUR: 'it returns false'. Refute it at one input. -/
def programMeansWrong : ChangeSpec := { name := "programMeans", fn := fun _ => fun
  | [d1, d2] => { results := [.lit (.bool false)], args := [d1, d2] }
  | _ => none }
def ProgramMeansWrongFalsely : Prop := programMeansRow.holds Try.pinned (OpenSpec.ofChange programMeansWrong)

/-- 'signatorylaw34.DealingSum': WHATEVER THE INPUT: true; the input reads as it did. -/
def dealingSumSpec : ChangeSpec := { name := "dealingSum", fn := fun _ => fun
  | [d1, d2, d3, d4, d5] => { results := [.lit (.bool true)], args := [d1, d2, d3, d4, d5] }
  | _ => none }
def dealingSumRow : OpenClaim := { program := "ytohebkpgjaaljaa", sum := "92bc8430d7100e83a3bb845bdaf0ce38cf545fabe388b7950a58edc6ba32d41b", func := "signatory/signatorylaw34.DealingSum", spec := "dealingSum", unfollowed := true, recurses := true, apart := false }
def DealingSumSaid : Prop := dealingSumRow.holds Try.pinned (OpenSpec.ofChange dealingSumSpec)

/-- ITS FALSE NEIGHBOUR: 'it returns false'. Refute it at one input. -/
def dealingSumWrong : ChangeSpec := { name := "dealingSum", fn := fun _ => fun
  | [d1, d2, d3, d4, d5] => { results := [.lit (.bool false)], args := [d1, d2, d3, d4, d5] }
  | _ => none }
def DealingSumWrongFalsely : Prop := dealingSumRow.holds Try.pinned (OpenSpec.ofChange dealingSumWrong)

/-- 'signatorylaw34.DealingEnough': WHATEVER THE INPUT: true; the input reads as it did. -/
def dealingEnoughSpec : ChangeSpec := { name := "dealingEnough", fn := fun _ => fun
  | [d1, d2, d3, d4] => { results := [.lit (.bool true)], args := [d1, d2, d3, d4] }
  | _ => none }
def dealingEnoughRow : OpenClaim := { program := "ytohebkpgjaaljaa", sum := "92bc8430d7100e83a3bb845bdaf0ce38cf545fabe388b7950a58edc6ba32d41b", func := "signatory/signatorylaw34.DealingEnough", spec := "dealingEnough", unfollowed := true, recurses := true, apart := false }
def DealingEnoughSaid : Prop := dealingEnoughRow.holds Try.pinned (OpenSpec.ofChange dealingEnoughSpec)

/-- ITS FALSE NEIGHBOUR: 'it returns false'. Refute it at one input. -/
def dealingEnoughWrong : ChangeSpec := { name := "dealingEnough", fn := fun _ => fun
  | [d1, d2, d3, d4] => { results := [.lit (.bool false)], args := [d1, d2, d3, d4] }
  | _ => none }
def DealingEnoughWrongFalsely : Prop := dealingEnoughRow.holds Try.pinned (OpenSpec.ofChange dealingEnoughWrong)

/-- 'signatorylaw34.DealingHides': WHATEVER THE INPUT: true; the input reads as it did. -/
def dealingHidesSpec : ChangeSpec := { name := "dealingHides", fn := fun _ => fun
  | [d1, d2, d3, d4, d5] => { results := [.lit (.bool true)], args := [d1, d2, d3, d4, d5] }
  | _ => none }
def dealingHidesRow : OpenClaim := { program := "ytohebkpgjaaljaa", sum := "92bc8430d7100e83a3bb845bdaf0ce38cf545fabe388b7950a58edc6ba32d41b", func := "signatory/signatorylaw34.DealingHides", spec := "dealingHides", unfollowed := true, recurses := true, apart := false }
def DealingHidesSaid : Prop := dealingHidesRow.holds Try.pinned (OpenSpec.ofChange dealingHidesSpec)

/-- ITS FALSE NEIGHBOUR: 'it returns false'. Refute it at one input. -/
def dealingHidesWrong : ChangeSpec := { name := "dealingHides", fn := fun _ => fun
  | [d1, d2, d3, d4, d5] => { results := [.lit (.bool false)], args := [d1, d2, d3, d4, d5] }
  | _ => none }
def DealingHidesWrongFalsely : Prop := dealingHidesRow.holds Try.pinned (OpenSpec.ofChange dealingHidesWrong)

/- THE SECOND FORM. 'bulk': how many values and letters a reading holds, each counted each time it is reached (what is shared counts as often as it is met; a slice's spare places count too). A statement '..UptoSaid' is the law's where the arguments, and the package variables that the reading takes, are together of bulk at most 1048576: NARROWER than '..Said'. Prove '..Said' where nothing that the law and all that it calls make is longer than what came in: it says more and counts as full. Else prove '..UptoSaid'. A law counts once. -/
mutual
def uptoBulk {H : Type} : DataW H → Nat
  | .lit (.string bytes) => bytes.length + 1
  | .lit _ => 1
  | .nil => 1
  | .ptr d => uptoBulk d + 1
  | .slice elems spare => uptoBulkAll elems + uptoBulkAll spare + 1
  | .agg parts => uptoBulkAll parts + 1
  | .iface _ d => uptoBulk d + 1
  | .map entries => uptoBulkEntries entries + 1
  | .held _ => 1
def uptoBulkAll {H : Type} : List (DataW H) → Nat
  | [] => 0
  | d :: r => uptoBulk d + uptoBulkAll r
def uptoBulkEntries {H : Type} : List (Lit × DataW H) → Nat
  | [] => 0
  | x :: r => uptoBulkEntry x + uptoBulkEntries r
def uptoBulkEntry {H : Type} : Lit × DataW H → Nat
  | (.string bytes, d) => bytes.length + uptoBulk d + 1
  | (_, d) => uptoBulk d + 1
 end
def uptoSmall : (H : Type) → List (DataW H) → Bool := fun _ ds => decide (uptoBulkAll ds ≤ 1048576)
def OpenSpec.upto (s : _root_.Go.ChangeSpec) : _root_.Go.OpenSpec := { _root_.Go.OpenSpec.ofChange s with cond := some uptoSmall }

/-- 'signatorylaw23.ProgramSpec', WHERE WHAT IT READS IS OF BULK AT MOST 1048576: true; the input reads as it did. -/
def programSpecUptoRow : OpenClaim := { program := "ytohebkpgjaaljaa", sum := "92bc8430d7100e83a3bb845bdaf0ce38cf545fabe388b7950a58edc6ba32d41b", func := "signatory/signatorylaw23.ProgramSpec", spec := "programSpec", unfollowed := true, recurses := true, loops := true, apart := false, narrowed := true }
def ProgramSpecUptoSaid : Prop := programSpecUptoRow.holds Try.pinned (OpenSpec.upto programSpecSpec)

/-- 'signatorylaw23.ProgramAcceptsSpec', WHERE WHAT IT READS IS OF BULK AT MOST 1048576: true; the input reads as it did. -/
def programAcceptsSpecUptoRow : OpenClaim := { program := "ytohebkpgjaaljaa", sum := "92bc8430d7100e83a3bb845bdaf0ce38cf545fabe388b7950a58edc6ba32d41b", func := "signatory/signatorylaw23.ProgramAcceptsSpec", spec := "programAcceptsSpec", unfollowed := true, recurses := true, apart := false, narrowed := true }
def ProgramAcceptsSpecUptoSaid : Prop := programAcceptsSpecUptoRow.holds Try.pinned (OpenSpec.upto programAcceptsSpecSpec)

/-- 'signatorylaw23.ProgramProves', WHERE WHAT IT READS IS OF BULK AT MOST 1048576: true; the input reads as it did. -/
def programProvesUptoRow : OpenClaim := { program := "ytohebkpgjaaljaa", sum := "92bc8430d7100e83a3bb845bdaf0ce38cf545fabe388b7950a58edc6ba32d41b", func := "signatory/signatorylaw23.ProgramProves", spec := "programProves", unfollowed := true, recurses := true, apart := false, narrowed := true }
def ProgramProvesUptoSaid : Prop := programProvesUptoRow.holds Try.pinned (OpenSpec.upto programProvesSpec)

/-- 'signatorylaw23.ProgramMore', WHERE WHAT IT READS IS OF BULK AT MOST 1048576: true; the input reads as it did. -/
def programMoreUptoRow : OpenClaim := { program := "ytohebkpgjaaljaa", sum := "92bc8430d7100e83a3bb845bdaf0ce38cf545fabe388b7950a58edc6ba32d41b", func := "signatory/signatorylaw23.ProgramMore", spec := "programMore", unfollowed := true, recurses := true, apart := false, narrowed := true }
def ProgramMoreUptoSaid : Prop := programMoreUptoRow.holds Try.pinned (OpenSpec.upto programMoreSpec)

/-- 'signatorylaw23.ProgramShape', WHERE WHAT IT READS IS OF BULK AT MOST 1048576: true; the input reads as it did. -/
def programShapeUptoRow : OpenClaim := { program := "ytohebkpgjaaljaa", sum := "92bc8430d7100e83a3bb845bdaf0ce38cf545fabe388b7950a58edc6ba32d41b", func := "signatory/signatorylaw23.ProgramShape", spec := "programShape", unfollowed := true, recurses := true, loops := true, apart := false, narrowed := true }
def ProgramShapeUptoSaid : Prop := programShapeUptoRow.holds Try.pinned (OpenSpec.upto programShapeSpec)

/-- 'signatorylaw23.ProgramMeans', WHERE WHAT IT READS IS OF BULK AT MOST 1048576: true; the input reads as it did. -/
def programMeansUptoRow : OpenClaim := { program := "ytohebkpgjaaljaa", sum := "92bc8430d7100e83a3bb845bdaf0ce38cf545fabe388b7950a58edc6ba32d41b", func := "signatory/signatorylaw23.ProgramMeans", spec := "programMeans", unfollowed := true, recurses := true, loops := true, apart := false, narrowed := true }
def ProgramMeansUptoSaid : Prop := programMeansUptoRow.holds Try.pinned (OpenSpec.upto programMeansSpec)

/-- 'signatorylaw34.DealingSum', WHERE WHAT IT READS IS OF BULK AT MOST 1048576: true; the input reads as it did. -/
def dealingSumUptoRow : OpenClaim := { program := "ytohebkpgjaaljaa", sum := "92bc8430d7100e83a3bb845bdaf0ce38cf545fabe388b7950a58edc6ba32d41b", func := "signatory/signatorylaw34.DealingSum", spec := "dealingSum", unfollowed := true, recurses := true, apart := false, narrowed := true }
def DealingSumUptoSaid : Prop := dealingSumUptoRow.holds Try.pinned (OpenSpec.upto dealingSumSpec)

/-- 'signatorylaw34.DealingEnough', WHERE WHAT IT READS IS OF BULK AT MOST 1048576: true; the input reads as it did. -/
def dealingEnoughUptoRow : OpenClaim := { program := "ytohebkpgjaaljaa", sum := "92bc8430d7100e83a3bb845bdaf0ce38cf545fabe388b7950a58edc6ba32d41b", func := "signatory/signatorylaw34.DealingEnough", spec := "dealingEnough", unfollowed := true, recurses := true, apart := false, narrowed := true }
def DealingEnoughUptoSaid : Prop := dealingEnoughUptoRow.holds Try.pinned (OpenSpec.upto dealingEnoughSpec)

/-- 'signatorylaw34.DealingHides', WHERE WHAT IT READS IS OF BULK AT MOST 1048576: true; the input reads as it did. -/
def dealingHidesUptoRow : OpenClaim := { program := "ytohebkpgjaaljaa", sum := "92bc8430d7100e83a3bb845bdaf0ce38cf545fabe388b7950a58edc6ba32d41b", func := "signatory/signatorylaw34.DealingHides", spec := "dealingHides", unfollowed := true, recurses := true, apart := false, narrowed := true }
def DealingHidesUptoSaid : Prop := dealingHidesUptoRow.holds Try.pinned (OpenSpec.upto dealingHidesSpec)

end Rows
end Go.Proofs.Ytohebkpgjaaljaa
