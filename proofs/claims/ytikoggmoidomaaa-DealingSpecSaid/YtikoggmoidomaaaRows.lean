/-
  No cell of these rows narrows 'for every input' (looked for: loops, veiled, ifaces, maps, wideKeys, modest, calm, conditions, laid).
  DERIVED. THE GIVEN ROWS OF THIS SEAT. 11 by the template 'for every input the law returns true; each argument reads behind the call as it read before'; 0 by the template 'total and deterministic' (their statements: YtikoggmoidomaaaTotals.lean).
  GIVEN WITH THE SEED: the statements are not yours to turn. If you find one false, say at which input.
  Laid BY PROGRAM, IN A SANDBOX (cutbox-rows.mjs): the forced cells as the released guide's own fill.sh prints them over the translation d0083bc0b2b2e9be… (all of the seat's roots in one cut). By AI agents, Wed Nov 11 2026. No macro, syntax, notation, axiom, sorry.
-/
import Derived.Test.YtikoggmoidomaaaChecked
import GoSem.Claim
import GoSem.ClaimJoined
import GoSem.ClaimMapViews
import Derived.JoinedTies
import Derived.KernelRfl
namespace Go.Proofs.Ytikoggmoidomaaa
/- THE CELL 'sum', in the pinned program and in every row, IS THE sha256 OF THE DUMP (.gsa) THAT YtikoggmoidomaaaProg.lean LOADS. Nothing in Lean hashes anything: it is a label: what it is worth is what the hold of that sum in a sandbox is worth. -/
noncomputable def Try.pinned : Pinned := { name := "ytikoggmoidomaaa", sum := "d0083bc0b2b2e9be218d5fef54b38bc2086cd5afed87d0777dfe1ed56f0d7e40", checked := Try.checked }
namespace Rows
def none {H : Type} : Left H := { results := [], args := [] }

/-- 'signatorylaw34.DealingSpec': WHATEVER THE INPUT: true; the input reads as it did. -/
def dealingSpecSpec : ChangeSpec := { name := "dealingSpec", fn := fun _ => fun
  | [d1, d2, d3, d4] => { results := [.lit (.bool true)], args := [d1, d2, d3, d4] }
  | _ => none }
def dealingSpecRow : OpenClaim := { program := "ytikoggmoidomaaa", sum := "d0083bc0b2b2e9be218d5fef54b38bc2086cd5afed87d0777dfe1ed56f0d7e40", func := "signatory/signatorylaw34.DealingSpec", spec := "dealingSpec", unfollowed := true, recurses := true, apart := false }
def DealingSpecSaid : Prop := dealingSpecRow.holds Try.pinned (OpenSpec.ofChange dealingSpecSpec)

/-- ITS FALSE NEIGHBOUR: 'it returns false'. Refute it at one input. -/
def dealingSpecWrong : ChangeSpec := { name := "dealingSpec", fn := fun _ => fun
  | [d1, d2, d3, d4] => { results := [.lit (.bool false)], args := [d1, d2, d3, d4] }
  | _ => none }
def DealingSpecWrongFalsely : Prop := dealingSpecRow.holds Try.pinned (OpenSpec.ofChange dealingSpecWrong)

/-- 'signatorylaw34.DealingFitsSpec': WHATEVER THE INPUT: true; the input reads as it did. -/
def dealingFitsSpecSpec : ChangeSpec := { name := "dealingFitsSpec", fn := fun _ => fun
  | [d1, d2, d3, d4] => { results := [.lit (.bool true)], args := [d1, d2, d3, d4] }
  | _ => none }
def dealingFitsSpecRow : OpenClaim := { program := "ytikoggmoidomaaa", sum := "d0083bc0b2b2e9be218d5fef54b38bc2086cd5afed87d0777dfe1ed56f0d7e40", func := "signatory/signatorylaw34.DealingFitsSpec", spec := "dealingFitsSpec", unfollowed := true, recurses := true, apart := false }
def DealingFitsSpecSaid : Prop := dealingFitsSpecRow.holds Try.pinned (OpenSpec.ofChange dealingFitsSpecSpec)

/-- ITS FALSE NEIGHBOUR: 'it returns false'. Refute it at one input. -/
def dealingFitsSpecWrong : ChangeSpec := { name := "dealingFitsSpec", fn := fun _ => fun
  | [d1, d2, d3, d4] => { results := [.lit (.bool false)], args := [d1, d2, d3, d4] }
  | _ => none }
def DealingFitsSpecWrongFalsely : Prop := dealingFitsSpecRow.holds Try.pinned (OpenSpec.ofChange dealingFitsSpecWrong)

/-- 'signatorylaw34.DealingFits': WHATEVER THE INPUT: true; the input reads as it did. -/
def dealingFitsSpec : ChangeSpec := { name := "dealingFits", fn := fun _ => fun
  | [d1, d2, d3, d4] => { results := [.lit (.bool true)], args := [d1, d2, d3, d4] }
  | _ => none }
def dealingFitsRow : OpenClaim := { program := "ytikoggmoidomaaa", sum := "d0083bc0b2b2e9be218d5fef54b38bc2086cd5afed87d0777dfe1ed56f0d7e40", func := "signatory/signatorylaw34.DealingFits", spec := "dealingFits", unfollowed := true, recurses := true, apart := false }
def DealingFitsSaid : Prop := dealingFitsRow.holds Try.pinned (OpenSpec.ofChange dealingFitsSpec)

/-- ITS FALSE NEIGHBOUR: 'it returns false'. Refute it at one input. -/
def dealingFitsWrong : ChangeSpec := { name := "dealingFits", fn := fun _ => fun
  | [d1, d2, d3, d4] => { results := [.lit (.bool false)], args := [d1, d2, d3, d4] }
  | _ => none }
def DealingFitsWrongFalsely : Prop := dealingFitsRow.holds Try.pinned (OpenSpec.ofChange dealingFitsWrong)

/-- 'signatorylaw34.DealingSum': WHATEVER THE INPUT: true; the input reads as it did. -/
def dealingSumSpec : ChangeSpec := { name := "dealingSum", fn := fun _ => fun
  | [d1, d2, d3, d4, d5] => { results := [.lit (.bool true)], args := [d1, d2, d3, d4, d5] }
  | _ => none }
def dealingSumRow : OpenClaim := { program := "ytikoggmoidomaaa", sum := "d0083bc0b2b2e9be218d5fef54b38bc2086cd5afed87d0777dfe1ed56f0d7e40", func := "signatory/signatorylaw34.DealingSum", spec := "dealingSum", unfollowed := true, recurses := true, apart := false }
def DealingSumSaid : Prop := dealingSumRow.holds Try.pinned (OpenSpec.ofChange dealingSumSpec)

/-- ITS FALSE NEIGHBOUR: 'it returns false'. Refute it at one input. -/
def dealingSumWrong : ChangeSpec := { name := "dealingSum", fn := fun _ => fun
  | [d1, d2, d3, d4, d5] => { results := [.lit (.bool false)], args := [d1, d2, d3, d4, d5] }
  | _ => none }
def DealingSumWrongFalsely : Prop := dealingSumRow.holds Try.pinned (OpenSpec.ofChange dealingSumWrong)

/-- 'signatorylaw40.RebuildSpec': WHATEVER THE INPUT: true; the input reads as it did. -/
def rebuildSpecSpec : ChangeSpec := { name := "rebuildSpec", fn := fun _ => fun
  | [d1, d2, d3, d4, d5, d6] => { results := [.lit (.bool true)], args := [d1, d2, d3, d4, d5, d6] }
  | _ => none }
def rebuildSpecRow : OpenClaim := { program := "ytikoggmoidomaaa", sum := "d0083bc0b2b2e9be218d5fef54b38bc2086cd5afed87d0777dfe1ed56f0d7e40", func := "signatory/signatorylaw40.RebuildSpec", spec := "rebuildSpec", unfollowed := true, recurses := true, apart := false }
def RebuildSpecSaid : Prop := rebuildSpecRow.holds Try.pinned (OpenSpec.ofChange rebuildSpecSpec)

/-- ITS FALSE NEIGHBOUR: 'it returns false'. Refute it at one input. -/
def rebuildSpecWrong : ChangeSpec := { name := "rebuildSpec", fn := fun _ => fun
  | [d1, d2, d3, d4, d5, d6] => { results := [.lit (.bool false)], args := [d1, d2, d3, d4, d5, d6] }
  | _ => none }
def RebuildSpecWrongFalsely : Prop := rebuildSpecRow.holds Try.pinned (OpenSpec.ofChange rebuildSpecWrong)

/-- 'signatorylaw40.RebuildFinishSpec': WHATEVER THE INPUT: true; the input reads as it did. -/
def rebuildFinishSpecSpec : ChangeSpec := { name := "rebuildFinishSpec", fn := fun _ => fun
  | [d1, d2, d3] => { results := [.lit (.bool true)], args := [d1, d2, d3] }
  | _ => none }
def rebuildFinishSpecRow : OpenClaim := { program := "ytikoggmoidomaaa", sum := "d0083bc0b2b2e9be218d5fef54b38bc2086cd5afed87d0777dfe1ed56f0d7e40", func := "signatory/signatorylaw40.RebuildFinishSpec", spec := "rebuildFinishSpec", unfollowed := true, recurses := true, apart := false }
def RebuildFinishSpecSaid : Prop := rebuildFinishSpecRow.holds Try.pinned (OpenSpec.ofChange rebuildFinishSpecSpec)

/-- ITS FALSE NEIGHBOUR: 'it returns false'. Refute it at one input. -/
def rebuildFinishSpecWrong : ChangeSpec := { name := "rebuildFinishSpec", fn := fun _ => fun
  | [d1, d2, d3] => { results := [.lit (.bool false)], args := [d1, d2, d3] }
  | _ => none }
def RebuildFinishSpecWrongFalsely : Prop := rebuildFinishSpecRow.holds Try.pinned (OpenSpec.ofChange rebuildFinishSpecWrong)

/-- 'signatorylaw40.RebuildWhole': WHATEVER THE INPUT: true; the input reads as it did. -/
def rebuildWholeSpec : ChangeSpec := { name := "rebuildWhole", fn := fun _ => fun
  | [d1, d2, d3, d4, d5, d6] => { results := [.lit (.bool true)], args := [d1, d2, d3, d4, d5, d6] }
  | _ => none }
def rebuildWholeRow : OpenClaim := { program := "ytikoggmoidomaaa", sum := "d0083bc0b2b2e9be218d5fef54b38bc2086cd5afed87d0777dfe1ed56f0d7e40", func := "signatory/signatorylaw40.RebuildWhole", spec := "rebuildWhole", unfollowed := true, recurses := true, apart := false }
def RebuildWholeSaid : Prop := rebuildWholeRow.holds Try.pinned (OpenSpec.ofChange rebuildWholeSpec)

/-- ITS FALSE NEIGHBOUR: 'it returns false'. Refute it at one input. -/
def rebuildWholeWrong : ChangeSpec := { name := "rebuildWhole", fn := fun _ => fun
  | [d1, d2, d3, d4, d5, d6] => { results := [.lit (.bool false)], args := [d1, d2, d3, d4, d5, d6] }
  | _ => none }
def RebuildWholeWrongFalsely : Prop := rebuildWholeRow.holds Try.pinned (OpenSpec.ofChange rebuildWholeWrong)

/-- 'signatorylaw40.RebuildHidden': WHATEVER THE INPUT: true; the input reads as it did. -/
def rebuildHiddenSpec : ChangeSpec := { name := "rebuildHidden", fn := fun _ => fun
  | [d1, d2, d3, d4, d5, d6] => { results := [.lit (.bool true)], args := [d1, d2, d3, d4, d5, d6] }
  | _ => none }
def rebuildHiddenRow : OpenClaim := { program := "ytikoggmoidomaaa", sum := "d0083bc0b2b2e9be218d5fef54b38bc2086cd5afed87d0777dfe1ed56f0d7e40", func := "signatory/signatorylaw40.RebuildHidden", spec := "rebuildHidden", unfollowed := true, recurses := true, apart := false }
def RebuildHiddenSaid : Prop := rebuildHiddenRow.holds Try.pinned (OpenSpec.ofChange rebuildHiddenSpec)

/-- ITS FALSE NEIGHBOUR: 'it returns false'. Refute it at one input. -/
def rebuildHiddenWrong : ChangeSpec := { name := "rebuildHidden", fn := fun _ => fun
  | [d1, d2, d3, d4, d5, d6] => { results := [.lit (.bool false)], args := [d1, d2, d3, d4, d5, d6] }
  | _ => none }
def RebuildHiddenWrongFalsely : Prop := rebuildHiddenRow.holds Try.pinned (OpenSpec.ofChange rebuildHiddenWrong)

/-- 'signatorylaw34.DealingEnough': WHATEVER THE INPUT: true; the input reads as it did. -/
def dealingEnoughSpec : ChangeSpec := { name := "dealingEnough", fn := fun _ => fun
  | [d1, d2, d3, d4] => { results := [.lit (.bool true)], args := [d1, d2, d3, d4] }
  | _ => none }
def dealingEnoughRow : OpenClaim := { program := "ytikoggmoidomaaa", sum := "d0083bc0b2b2e9be218d5fef54b38bc2086cd5afed87d0777dfe1ed56f0d7e40", func := "signatory/signatorylaw34.DealingEnough", spec := "dealingEnough", unfollowed := true, recurses := true, apart := false }
def DealingEnoughSaid : Prop := dealingEnoughRow.holds Try.pinned (OpenSpec.ofChange dealingEnoughSpec)

/-- ITS FALSE NEIGHBOUR: 'it returns false'. Refute it at one input. -/
def dealingEnoughWrong : ChangeSpec := { name := "dealingEnough", fn := fun _ => fun
  | [d1, d2, d3, d4] => { results := [.lit (.bool false)], args := [d1, d2, d3, d4] }
  | _ => none }
def DealingEnoughWrongFalsely : Prop := dealingEnoughRow.holds Try.pinned (OpenSpec.ofChange dealingEnoughWrong)

/-- 'signatorylaw40.RebuildNeeds': WHATEVER THE INPUT: true; the input reads as it did. -/
def rebuildNeedsSpec : ChangeSpec := { name := "rebuildNeeds", fn := fun _ => fun
  | [d1, d2, d3, d4, d5] => { results := [.lit (.bool true)], args := [d1, d2, d3, d4, d5] }
  | _ => none }
def rebuildNeedsRow : OpenClaim := { program := "ytikoggmoidomaaa", sum := "d0083bc0b2b2e9be218d5fef54b38bc2086cd5afed87d0777dfe1ed56f0d7e40", func := "signatory/signatorylaw40.RebuildNeeds", spec := "rebuildNeeds", unfollowed := true, recurses := true, apart := false }
def RebuildNeedsSaid : Prop := rebuildNeedsRow.holds Try.pinned (OpenSpec.ofChange rebuildNeedsSpec)

/-- ITS FALSE NEIGHBOUR: 'it returns false'. Refute it at one input. -/
def rebuildNeedsWrong : ChangeSpec := { name := "rebuildNeeds", fn := fun _ => fun
  | [d1, d2, d3, d4, d5] => { results := [.lit (.bool false)], args := [d1, d2, d3, d4, d5] }
  | _ => none }
def RebuildNeedsWrongFalsely : Prop := rebuildNeedsRow.holds Try.pinned (OpenSpec.ofChange rebuildNeedsWrong)

/-- 'signatorylaw34.DealingHides': WHATEVER THE INPUT: true; the input reads as it did. -/
def dealingHidesSpec : ChangeSpec := { name := "dealingHides", fn := fun _ => fun
  | [d1, d2, d3, d4, d5] => { results := [.lit (.bool true)], args := [d1, d2, d3, d4, d5] }
  | _ => none }
def dealingHidesRow : OpenClaim := { program := "ytikoggmoidomaaa", sum := "d0083bc0b2b2e9be218d5fef54b38bc2086cd5afed87d0777dfe1ed56f0d7e40", func := "signatory/signatorylaw34.DealingHides", spec := "dealingHides", unfollowed := true, recurses := true, apart := false }
def DealingHidesSaid : Prop := dealingHidesRow.holds Try.pinned (OpenSpec.ofChange dealingHidesSpec)

/-- ITS FALSE NEIGHBOUR: 'it returns false'. Refute it at one input. -/
def dealingHidesWrong : ChangeSpec := { name := "dealingHides", fn := fun _ => fun
  | [d1, d2, d3, d4, d5] => { results := [.lit (.bool false)], args := [d1, d2, d3, d4, d5] }
  | _ => none }
def DealingHidesWrongFalsely : Prop := dealingHidesRow.holds Try.pinned (OpenSpec.ofChange dealingHidesWrong)

/- THE SECOND FORM. 'bulk': how many values and letters a reading holds, each counted each time it is reached (what is shared counts as often as it is met; a slice's spare places count too). A statement '..UptoSaid' is the law's where the arguments, and the package variables that the reading takes, are together of bulk at most 1048576: NARROWER than '..Said'. Prove '..Said' where nothing that the law and all that it calls make is longer than what came in: it says more and counts as full. Else prove '..UptoSaid'. A law counts once. -/
mutual
def uptoBulk {H : Type} : DataW H → Nat
  | .lit (.string bytes) => bytes.length + 1
  | .lit _ => 1
  | .nil => 1
  | .ptr d => uptoBulk d + 1
  | .slice elems spare => uptoBulkAll elems + uptoBulkAll spare + 1
  | .agg parts => uptoBulkAll parts + 1
  | .iface _ d => uptoBulk d + 1
  | .map entries => uptoBulkEntries entries + 1
  | .held _ => 1
def uptoBulkAll {H : Type} : List (DataW H) → Nat
  | [] => 0
  | d :: r => uptoBulk d + uptoBulkAll r
def uptoBulkEntries {H : Type} : List (Lit × DataW H) → Nat
  | [] => 0
  | x :: r => uptoBulkEntry x + uptoBulkEntries r
def uptoBulkEntry {H : Type} : Lit × DataW H → Nat
  | (.string bytes, d) => bytes.length + uptoBulk d + 1
  | (_, d) => uptoBulk d + 1
 end
def uptoSmall : (H : Type) → List (DataW H) → Bool := fun _ ds => decide (uptoBulkAll ds ≤ 1048576)
def OpenSpec.upto (s : _root_.Go.ChangeSpec) : _root_.Go.OpenSpec := { _root_.Go.OpenSpec.ofChange s with cond := some uptoSmall }

/-- 'signatorylaw34.DealingSpec', WHERE WHAT IT READS IS OF BULK AT MOST 1048576: true; the input reads as it did. -/
def dealingSpecUptoRow : OpenClaim := { program := "ytikoggmoidomaaa", sum := "d0083bc0b2b2e9be218d5fef54b38bc2086cd5afed87d0777dfe1ed56f0d7e40", func := "signatory/signatorylaw34.DealingSpec", spec := "dealingSpec", unfollowed := true, recurses := true, apart := false, narrowed := true }
def DealingSpecUptoSaid : Prop := dealingSpecUptoRow.holds Try.pinned (OpenSpec.upto dealingSpecSpec)

/-- 'signatorylaw34.DealingFitsSpec', WHERE WHAT IT READS IS OF BULK AT MOST 1048576: true; the input reads as it did. -/
def dealingFitsSpecUptoRow : OpenClaim := { program := "ytikoggmoidomaaa", sum := "d0083bc0b2b2e9be218d5fef54b38bc2086cd5afed87d0777dfe1ed56f0d7e40", func := "signatory/signatorylaw34.DealingFitsSpec", spec := "dealingFitsSpec", unfollowed := true, recurses := true, apart := false, narrowed := true }
def DealingFitsSpecUptoSaid : Prop := dealingFitsSpecUptoRow.holds Try.pinned (OpenSpec.upto dealingFitsSpecSpec)

/-- 'signatorylaw34.DealingFits', WHERE WHAT IT READS IS OF BULK AT MOST 1048576: true; the input reads as it did. -/
def dealingFitsUptoRow : OpenClaim := { program := "ytikoggmoidomaaa", sum := "d0083bc0b2b2e9be218d5fef54b38bc2086cd5afed87d0777dfe1ed56f0d7e40", func := "signatory/signatorylaw34.DealingFits", spec := "dealingFits", unfollowed := true, recurses := true, apart := false, narrowed := true }
def DealingFitsUptoSaid : Prop := dealingFitsUptoRow.holds Try.pinned (OpenSpec.upto dealingFitsSpec)

/-- 'signatorylaw34.DealingSum', WHERE WHAT IT READS IS OF BULK AT MOST 1048576: true; the input reads as it did. -/
def dealingSumUptoRow : OpenClaim := { program := "ytikoggmoidomaaa", sum := "d0083bc0b2b2e9be218d5fef54b38bc2086cd5afed87d0777dfe1ed56f0d7e40", func := "signatory/signatorylaw34.DealingSum", spec := "dealingSum", unfollowed := true, recurses := true, apart := false, narrowed := true }
def DealingSumUptoSaid : Prop := dealingSumUptoRow.holds Try.pinned (OpenSpec.upto dealingSumSpec)

/-- 'signatorylaw40.RebuildSpec', WHERE WHAT IT READS IS OF BULK AT MOST 1048576: true; the input reads as it did. -/
def rebuildSpecUptoRow : OpenClaim := { program := "ytikoggmoidomaaa", sum := "d0083bc0b2b2e9be218d5fef54b38bc2086cd5afed87d0777dfe1ed56f0d7e40", func := "signatory/signatorylaw40.RebuildSpec", spec := "rebuildSpec", unfollowed := true, recurses := true, apart := false, narrowed := true }
def RebuildSpecUptoSaid : Prop := rebuildSpecUptoRow.holds Try.pinned (OpenSpec.upto rebuildSpecSpec)

/-- 'signatorylaw40.RebuildFinishSpec', WHERE WHAT IT READS IS OF BULK AT MOST 1048576: true; the input reads as it did. -/
def rebuildFinishSpecUptoRow : OpenClaim := { program := "ytikoggmoidomaaa", sum := "d0083bc0b2b2e9be218d5fef54b38bc2086cd5afed87d0777dfe1ed56f0d7e40", func := "signatory/signatorylaw40.RebuildFinishSpec", spec := "rebuildFinishSpec", unfollowed := true, recurses := true, apart := false, narrowed := true }
def RebuildFinishSpecUptoSaid : Prop := rebuildFinishSpecUptoRow.holds Try.pinned (OpenSpec.upto rebuildFinishSpecSpec)

/-- 'signatorylaw40.RebuildWhole', WHERE WHAT IT READS IS OF BULK AT MOST 1048576: true; the input reads as it did. -/
def rebuildWholeUptoRow : OpenClaim := { program := "ytikoggmoidomaaa", sum := "d0083bc0b2b2e9be218d5fef54b38bc2086cd5afed87d0777dfe1ed56f0d7e40", func := "signatory/signatorylaw40.RebuildWhole", spec := "rebuildWhole", unfollowed := true, recurses := true, apart := false, narrowed := true }
def RebuildWholeUptoSaid : Prop := rebuildWholeUptoRow.holds Try.pinned (OpenSpec.upto rebuildWholeSpec)

/-- 'signatorylaw40.RebuildHidden', WHERE WHAT IT READS IS OF BULK AT MOST 1048576: true; the input reads as it did. -/
def rebuildHiddenUptoRow : OpenClaim := { program := "ytikoggmoidomaaa", sum := "d0083bc0b2b2e9be218d5fef54b38bc2086cd5afed87d0777dfe1ed56f0d7e40", func := "signatory/signatorylaw40.RebuildHidden", spec := "rebuildHidden", unfollowed := true, recurses := true, apart := false, narrowed := true }
def RebuildHiddenUptoSaid : Prop := rebuildHiddenUptoRow.holds Try.pinned (OpenSpec.upto rebuildHiddenSpec)

/-- 'signatorylaw34.DealingEnough', WHERE WHAT IT READS IS OF BULK AT MOST 1048576: true; the input reads as it did. -/
def dealingEnoughUptoRow : OpenClaim := { program := "ytikoggmoidomaaa", sum := "d0083bc0b2b2e9be218d5fef54b38bc2086cd5afed87d0777dfe1ed56f0d7e40", func := "signatory/signatorylaw34.DealingEnough", spec := "dealingEnough", unfollowed := true, recurses := true, apart := false, narrowed := true }
def DealingEnoughUptoSaid : Prop := dealingEnoughUptoRow.holds Try.pinned (OpenSpec.upto dealingEnoughSpec)

/-- 'signatorylaw40.RebuildNeeds', WHERE WHAT IT READS IS OF BULK AT MOST 1048576: true; the input reads as it did. -/
def rebuildNeedsUptoRow : OpenClaim := { program := "ytikoggmoidomaaa", sum := "d0083bc0b2b2e9be218d5fef54b38bc2086cd5afed87d0777dfe1ed56f0d7e40", func := "signatory/signatorylaw40.RebuildNeeds", spec := "rebuildNeeds", unfollowed := true, recurses := true, apart := false, narrowed := true }
def RebuildNeedsUptoSaid : Prop := rebuildNeedsUptoRow.holds Try.pinned (OpenSpec.upto rebuildNeedsSpec)

/-- 'signatorylaw34.DealingHides', WHERE WHAT IT READS IS OF BULK AT MOST 1048576: true; the input reads as it did. -/
def dealingHidesUptoRow : OpenClaim := { program := "ytikoggmoidomaaa", sum := "d0083bc0b2b2e9be218d5fef54b38bc2086cd5afed87d0777dfe1ed56f0d7e40", func := "signatory/signatorylaw34.DealingHides", spec := "dealingHides", unfollowed := true, recurses := true, apart := false, narrowed := true }
def DealingHidesUptoSaid : Prop := dealingHidesUptoRow.holds Try.pinned (OpenSpec.upto dealingHidesSpec)

end Rows
end Go.Proofs.Ytikoggmoidomaaa
