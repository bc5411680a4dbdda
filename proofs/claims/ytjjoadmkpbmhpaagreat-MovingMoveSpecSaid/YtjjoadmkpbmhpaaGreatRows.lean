/-
  No cell of these rows narrows 'for every input' (looked for: loops, veiled, ifaces, maps, wideKeys, modest, calm, conditions, laid).
  DERIVED. THE GIVEN ROWS OF THIS SEAT. 4 by the template 'for every input the law returns true; each argument reads behind the call as it read before'; 0 by the template 'total and deterministic' (their statements: YtjjoadmkpbmhpaaGreatTotals.lean).
  GIVEN WITH THE SEED: the statements are not yours to turn. If you find one false, say at which input.
  Laid BY PROGRAM, IN A SANDBOX (cutbox-rows.mjs): the forced cells as the released guide's own fill.sh prints them over the translation 8920a93cd2da17f5… (all of the seat's roots in one cut). By AI agents, Wed Nov 11 2026. No macro, syntax, notation, axiom, sorry.
-/
import Derived.Test.YtjjoadmkpbmhpaaGreatChecked
import GoSem.Claim
import GoSem.ClaimJoined
import GoSem.ClaimMapViews
import Derived.JoinedTies
import Derived.KernelRfl
namespace Go.Proofs.YtjjoadmkpbmhpaaGreat
/- THE CELL 'sum', in the pinned program and in every row, IS THE sha256 OF THE DUMP (.gsa) THAT YtjjoadmkpbmhpaaGreatProg.lean LOADS. Nothing in Lean hashes anything: it is a label: what it is worth is what the hold of that sum in a sandbox is worth. -/
noncomputable def Tryz.pinned : Pinned := { name := "ytjjoadmkpbmhpaagreat", sum := "8920a93cd2da17f5a5f11399bd4b949ce9914811094dc09f200e29ab33f85c5d", checked := Tryz.checked }
namespace Rows
def none {H : Type} : Left H := { results := [], args := [] }

/-- 'signatorylaw39.MovingSpec': WHATEVER THE INPUT: true; the input reads as it did. -/
def movingSpecSpec : ChangeSpec := { name := "movingSpec", fn := fun _ => fun
  | [d1, d2, d3, d4, d5, d6] => { results := [.lit (.bool true)], args := [d1, d2, d3, d4, d5, d6] }
  | _ => none }
def movingSpecRow : OpenClaim := { program := "ytjjoadmkpbmhpaagreat", sum := "8920a93cd2da17f5a5f11399bd4b949ce9914811094dc09f200e29ab33f85c5d", func := "signatory/signatorylaw39.MovingSpec", spec := "movingSpec", unfollowed := true, recurses := true, apart := false }
def MovingSpecSaid : Prop := movingSpecRow.holds Tryz.pinned (OpenSpec.ofChange movingSpecSpec)

/-- ITS FALSE NEIGHBOUR: 'it returns false'. Refute it at one input. -/
def movingSpecWrong : ChangeSpec := { name := "movingSpec", fn := fun _ => fun
  | [d1, d2, d3, d4, d5, d6] => { results := [.lit (.bool false)], args := [d1, d2, d3, d4, d5, d6] }
  | _ => none }
def MovingSpecWrongFalsely : Prop := movingSpecRow.holds Tryz.pinned (OpenSpec.ofChange movingSpecWrong)

/-- 'signatorylaw39.MovingMoveSpec': WHATEVER THE INPUT: true; the input reads as it did. -/
def movingMoveSpecSpec : ChangeSpec := { name := "movingMoveSpec", fn := fun _ => fun
  | [d1, d2, d3, d4, d5, d6] => { results := [.lit (.bool true)], args := [d1, d2, d3, d4, d5, d6] }
  | _ => none }
def movingMoveSpecRow : OpenClaim := { program := "ytjjoadmkpbmhpaagreat", sum := "8920a93cd2da17f5a5f11399bd4b949ce9914811094dc09f200e29ab33f85c5d", func := "signatory/signatorylaw39.MovingMoveSpec", spec := "movingMoveSpec", unfollowed := true, recurses := true, apart := false }
def MovingMoveSpecSaid : Prop := movingMoveSpecRow.holds Tryz.pinned (OpenSpec.ofChange movingMoveSpecSpec)

/-- ITS FALSE NEIGHBOUR: 'it returns false'. Refute it at one input. -/
def movingMoveSpecWrong : ChangeSpec := { name := "movingMoveSpec", fn := fun _ => fun
  | [d1, d2, d3, d4, d5, d6] => { results := [.lit (.bool false)], args := [d1, d2, d3, d4, d5, d6] }
  | _ => none }
def MovingMoveSpecWrongFalsely : Prop := movingMoveSpecRow.holds Tryz.pinned (OpenSpec.ofChange movingMoveSpecWrong)

/-- 'signatorylaw39.MovingSame': WHATEVER THE INPUT: true; the input reads as it did. -/
def movingSameSpec : ChangeSpec := { name := "movingSame", fn := fun _ => fun
  | [d1, d2, d3, d4, d5, d6, d7] => { results := [.lit (.bool true)], args := [d1, d2, d3, d4, d5, d6, d7] }
  | _ => none }
def movingSameRow : OpenClaim := { program := "ytjjoadmkpbmhpaagreat", sum := "8920a93cd2da17f5a5f11399bd4b949ce9914811094dc09f200e29ab33f85c5d", func := "signatory/signatorylaw39.MovingSame", spec := "movingSame", unfollowed := true, recurses := true, apart := false }
def MovingSameSaid : Prop := movingSameRow.holds Tryz.pinned (OpenSpec.ofChange movingSameSpec)

/-- ITS FALSE NEIGHBOUR: 'it returns false'. Refute it at one input. -/
def movingSameWrong : ChangeSpec := { name := "movingSame", fn := fun _ => fun
  | [d1, d2, d3, d4, d5, d6, d7] => { results := [.lit (.bool false)], args := [d1, d2, d3, d4, d5, d6, d7] }
  | _ => none }
def MovingSameWrongFalsely : Prop := movingSameRow.holds Tryz.pinned (OpenSpec.ofChange movingSameWrong)

/-- 'signatorylaw39.MovingOn': WHATEVER THE INPUT: true; the input reads as it did. -/
def movingOnSpec : ChangeSpec := { name := "movingOn", fn := fun _ => fun
  | [d1, d2, d3, d4, d5, d6, d7, d8] => { results := [.lit (.bool true)], args := [d1, d2, d3, d4, d5, d6, d7, d8] }
  | _ => none }
def movingOnRow : OpenClaim := { program := "ytjjoadmkpbmhpaagreat", sum := "8920a93cd2da17f5a5f11399bd4b949ce9914811094dc09f200e29ab33f85c5d", func := "signatory/signatorylaw39.MovingOn", spec := "movingOn", unfollowed := true, recurses := true, apart := false }
def MovingOnSaid : Prop := movingOnRow.holds Tryz.pinned (OpenSpec.ofChange movingOnSpec)

/-- ITS FALSE NEIGHBOUR: 'it returns false'. Refute it at one input. -/
def movingOnWrong : ChangeSpec := { name := "movingOn", fn := fun _ => fun
  | [d1, d2, d3, d4, d5, d6, d7, d8] => { results := [.lit (.bool false)], args := [d1, d2, d3, d4, d5, d6, d7, d8] }
  | _ => none }
def MovingOnWrongFalsely : Prop := movingOnRow.holds Tryz.pinned (OpenSpec.ofChange movingOnWrong)

/- THE SECOND FORM. 'bulk': how many values and letters a reading holds, each counted each time it is reached (what is shared counts as often as it is met; a slice's spare places count too). A statement '..UptoSaid' is the law's where the arguments, and the package variables that the reading takes, are together of bulk at most 1048576: NARROWER than '..Said'. Prove '..Said' where nothing that the law and all that it calls make is longer than what came in: it says more and counts as full. Else prove '..UptoSaid'. A law counts once. -/
mutual
def uptoBulk {H : Type} : DataW H → Nat
  | .lit (.string bytes) => bytes.length + 1
  | .lit _ => 1
  | .nil => 1
  | .ptr d => uptoBulk d + 1
  | .slice elems spare => uptoBulkAll elems + uptoBulkAll spare + 1
  | .agg parts => uptoBulkAll parts + 1
  | .iface _ d => uptoBulk d + 1
  | .map entries => uptoBulkEntries entries + 1
  | .held _ => 1
def uptoBulkAll {H : Type} : List (DataW H) → Nat
  | [] => 0
  | d :: r => uptoBulk d + uptoBulkAll r
def uptoBulkEntries {H : Type} : List (Lit × DataW H) → Nat
  | [] => 0
  | x :: r => uptoBulkEntry x + uptoBulkEntries r
def uptoBulkEntry {H : Type} : Lit × DataW H → Nat
  | (.string bytes, d) => bytes.length + uptoBulk d + 1
  | (_, d) => uptoBulk d + 1
 end
def uptoSmall : (H : Type) → List (DataW H) → Bool := fun _ ds => decide (uptoBulkAll ds ≤ 1048576)
def OpenSpec.upto (s : _root_.Go.ChangeSpec) : _root_.Go.OpenSpec := { _root_.Go.OpenSpec.ofChange s with cond := some uptoSmall }

/-- 'signatorylaw39.MovingSpec', WHERE WHAT IT READS IS OF BULK AT MOST 1048576: true; the input reads as it did. -/
def movingSpecUptoRow : OpenClaim := { program := "ytjjoadmkpbmhpaagreat", sum := "8920a93cd2da17f5a5f11399bd4b949ce9914811094dc09f200e29ab33f85c5d", func := "signatory/signatorylaw39.MovingSpec", spec := "movingSpec", unfollowed := true, recurses := true, apart := false, narrowed := true }
def MovingSpecUptoSaid : Prop := movingSpecUptoRow.holds Tryz.pinned (OpenSpec.upto movingSpecSpec)

/-- 'signatorylaw39.MovingMoveSpec', WHERE WHAT IT READS IS OF BULK AT MOST 1048576: true; the input reads as it did. -/
def movingMoveSpecUptoRow : OpenClaim := { program := "ytjjoadmkpbmhpaagreat", sum := "8920a93cd2da17f5a5f11399bd4b949ce9914811094dc09f200e29ab33f85c5d", func := "signatory/signatorylaw39.MovingMoveSpec", spec := "movingMoveSpec", unfollowed := true, recurses := true, apart := false, narrowed := true }
def MovingMoveSpecUptoSaid : Prop := movingMoveSpecUptoRow.holds Tryz.pinned (OpenSpec.upto movingMoveSpecSpec)

/-- 'signatorylaw39.MovingSame', WHERE WHAT IT READS IS OF BULK AT MOST 1048576: true; the input reads as it did. -/
def movingSameUptoRow : OpenClaim := { program := "ytjjoadmkpbmhpaagreat", sum := "8920a93cd2da17f5a5f11399bd4b949ce9914811094dc09f200e29ab33f85c5d", func := "signatory/signatorylaw39.MovingSame", spec := "movingSame", unfollowed := true, recurses := true, apart := false, narrowed := true }
def MovingSameUptoSaid : Prop := movingSameUptoRow.holds Tryz.pinned (OpenSpec.upto movingSameSpec)

/-- 'signatorylaw39.MovingOn', WHERE WHAT IT READS IS OF BULK AT MOST 1048576: true; the input reads as it did. -/
def movingOnUptoRow : OpenClaim := { program := "ytjjoadmkpbmhpaagreat", sum := "8920a93cd2da17f5a5f11399bd4b949ce9914811094dc09f200e29ab33f85c5d", func := "signatory/signatorylaw39.MovingOn", spec := "movingOn", unfollowed := true, recurses := true, apart := false, narrowed := true }
def MovingOnUptoSaid : Prop := movingOnUptoRow.holds Tryz.pinned (OpenSpec.upto movingOnSpec)

end Rows
end Go.Proofs.YtjjoadmkpbmhpaaGreat
