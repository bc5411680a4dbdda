/-
  NARROWER THAN 'FOR EVERY INPUT', by the rows' own cells (each row's printed sentence says how): ComplaintsSpec: laid · ComplaintsSettleSpec: laid · ComplaintsGuilty: laid · ComplaintsHonest: laid · KeygenSpec: laid · KeygenQualifiedSpec: laid · KeygenHonest: laid · KeygenOthers: laid · KeygenFits: laid · KeygenTogether: laid.
  DERIVED. THE GIVEN ROWS OF THIS SEAT. 10 by the template 'for every input the law returns true; each argument reads behind the call as it read before'; 0 by the template 'total and deterministic' (their statements: YtggnipkfliompaaGreatDoorTotals.lean).
  GIVEN WITH THE SEED: the statements are not yours to turn. If you find one false, say at which input.
  Laid BY PROGRAM, IN A SANDBOX (cutbox-rows.mjs): the forced cells as the released guide's own fill.sh prints them over the translation b41e4ae9603ceba0… (all of the seat's roots in one cut). By AI agents, Wed Nov 11 2026. No macro, syntax, notation, axiom, sorry.
-/
import Derived.Test.YtggnipkfliompaaGreatDoorChecked
import GoSem.Claim
import GoSem.ClaimJoined
import GoSem.ClaimMapViews
import Derived.JoinedTies
import Derived.KernelRfl
namespace Go.Proofs.YtggnipkfliompaaGreatDoor
/- THE CELL 'sum', in the pinned program and in every row, IS THE sha256 OF THE DUMP (.gsa) THAT YtggnipkfliompaaGreatDoorProg.lean LOADS. Nothing in Lean hashes anything: it is a label: what it is worth is what the hold of that sum in a sandbox is worth. -/
noncomputable def Tryz.pinned : Pinned := { name := "ytggnipkfliompaagreatdoor", sum := "b41e4ae9603ceba068191e41631943e7629ebda6f9ea047282a35652d67a3a81", checked := Tryz.checked }
namespace Rows
def none {H : Type} : Left H := { results := [], args := [] }

/- WHAT THE LISTED PACKAGE-LEVEL VARIABLES READ AS WHEN THE CALL BEGINS. Each datum BY PROGRAM (the guide's laid-datum.mjs) off the statement by which the dump's own 'gosem.cut.vars' lays the variable. In a bare row this is a premise. The card (YtggnipkfliompaaGreatDoorCards.lean) ties it to the program's text. -/
def laid_signatory_digest_start {H : Type} : DataW H := .agg [.lit (.int .u32 1779033703), .lit (.int .u32 3144134277), .lit (.int .u32 1013904242), .lit (.int .u32 2773480762), .lit (.int .u32 1359893119), .lit (.int .u32 2600822924), .lit (.int .u32 528734635), .lit (.int .u32 1541459225)]
def laid_signatory_digest_numbers {H : Type} : DataW H := .agg [.lit (.int .u32 1116352408), .lit (.int .u32 1899447441), .lit (.int .u32 3049323471), .lit (.int .u32 3921009573), .lit (.int .u32 961987163), .lit (.int .u32 1508970993), .lit (.int .u32 2453635748), .lit (.int .u32 2870763221), .lit (.int .u32 3624381080), .lit (.int .u32 310598401), .lit (.int .u32 607225278), .lit (.int .u32 1426881987), .lit (.int .u32 1925078388), .lit (.int .u32 2162078206), .lit (.int .u32 2614888103), .lit (.int .u32 3248222580), .lit (.int .u32 3835390401), .lit (.int .u32 4022224774), .lit (.int .u32 264347078), .lit (.int .u32 604807628), .lit (.int .u32 770255983), .lit (.int .u32 1249150122), .lit (.int .u32 1555081692), .lit (.int .u32 1996064986), .lit (.int .u32 2554220882), .lit (.int .u32 2821834349), .lit (.int .u32 2952996808), .lit (.int .u32 3210313671), .lit (.int .u32 3336571891), .lit (.int .u32 3584528711), .lit (.int .u32 113926993), .lit (.int .u32 338241895), .lit (.int .u32 666307205), .lit (.int .u32 773529912), .lit (.int .u32 1294757372), .lit (.int .u32 1396182291), .lit (.int .u32 1695183700), .lit (.int .u32 1986661051), .lit (.int .u32 2177026350), .lit (.int .u32 2456956037), .lit (.int .u32 2730485921), .lit (.int .u32 2820302411), .lit (.int .u32 3259730800), .lit (.int .u32 3345764771), .lit (.int .u32 3516065817), .lit (.int .u32 3600352804), .lit (.int .u32 4094571909), .lit (.int .u32 275423344), .lit (.int .u32 430227734), .lit (.int .u32 506948616), .lit (.int .u32 659060556), .lit (.int .u32 883997877), .lit (.int .u32 958139571), .lit (.int .u32 1322822218), .lit (.int .u32 1537002063), .lit (.int .u32 1747873779), .lit (.int .u32 1955562222), .lit (.int .u32 2024104815), .lit (.int .u32 2227730452), .lit (.int .u32 2361852424), .lit (.int .u32 2428436474), .lit (.int .u32 2756734187), .lit (.int .u32 3204031479), .lit (.int .u32 3329325298)]

/-- 'signatorylaw36.ComplaintsSpec': WHATEVER THE INPUT: true; the input reads as it did. -/
def complaintsSpecSpec : ChangeSpec := { name := "complaintsSpec", fn := fun _ => fun
  | [d1, d2, d3, d4] => { results := [.lit (.bool true)], args := [d1, d2, d3, d4] }
  | _ => none }
def complaintsSpecRow : OpenClaim := { program := "ytggnipkfliompaagreatdoor", sum := "b41e4ae9603ceba068191e41631943e7629ebda6f9ea047282a35652d67a3a81", func := "signatory/signatorylaw36.ComplaintsSpec", spec := "complaintsSpec", unfollowed := true, recurses := true, named := ["signatory/digest.start", "signatory/digest.numbers"], apart := false, laid := [("signatory/digest.start", laid_signatory_digest_start), ("signatory/digest.numbers", laid_signatory_digest_numbers)] }
def ComplaintsSpecSaid : Prop := complaintsSpecRow.holds Tryz.pinned (OpenSpec.ofChange complaintsSpecSpec)

/-- ITS FALSE NEIGHBOUR: 'it returns false'. Refute it at one input. -/
def complaintsSpecWrong : ChangeSpec := { name := "complaintsSpec", fn := fun _ => fun
  | [d1, d2, d3, d4] => { results := [.lit (.bool false)], args := [d1, d2, d3, d4] }
  | _ => none }
def ComplaintsSpecWrongFalsely : Prop := complaintsSpecRow.holds Tryz.pinned (OpenSpec.ofChange complaintsSpecWrong)

/-- 'signatorylaw36.ComplaintsSettleSpec': WHATEVER THE INPUT: true; the input reads as it did. -/
def complaintsSettleSpecSpec : ChangeSpec := { name := "complaintsSettleSpec", fn := fun _ => fun
  | [d1, d2, d3, d4] => { results := [.lit (.bool true)], args := [d1, d2, d3, d4] }
  | _ => none }
def complaintsSettleSpecRow : OpenClaim := { program := "ytggnipkfliompaagreatdoor", sum := "b41e4ae9603ceba068191e41631943e7629ebda6f9ea047282a35652d67a3a81", func := "signatory/signatorylaw36.ComplaintsSettleSpec", spec := "complaintsSettleSpec", unfollowed := true, recurses := true, named := ["signatory/digest.start", "signatory/digest.numbers"], apart := false, laid := [("signatory/digest.start", laid_signatory_digest_start), ("signatory/digest.numbers", laid_signatory_digest_numbers)] }
def ComplaintsSettleSpecSaid : Prop := complaintsSettleSpecRow.holds Tryz.pinned (OpenSpec.ofChange complaintsSettleSpecSpec)

/-- ITS FALSE NEIGHBOUR: 'it returns false'. Refute it at one input. -/
def complaintsSettleSpecWrong : ChangeSpec := { name := "complaintsSettleSpec", fn := fun _ => fun
  | [d1, d2, d3, d4] => { results := [.lit (.bool false)], args := [d1, d2, d3, d4] }
  | _ => none }
def ComplaintsSettleSpecWrongFalsely : Prop := complaintsSettleSpecRow.holds Tryz.pinned (OpenSpec.ofChange complaintsSettleSpecWrong)

/-- 'signatorylaw36.ComplaintsGuilty': WHATEVER THE INPUT: true; the input reads as it did. -/
def complaintsGuiltySpec : ChangeSpec := { name := "complaintsGuilty", fn := fun _ => fun
  | [d1, d2, d3, d4, d5, d6] => { results := [.lit (.bool true)], args := [d1, d2, d3, d4, d5, d6] }
  | _ => none }
def complaintsGuiltyRow : OpenClaim := { program := "ytggnipkfliompaagreatdoor", sum := "b41e4ae9603ceba068191e41631943e7629ebda6f9ea047282a35652d67a3a81", func := "signatory/signatorylaw36.ComplaintsGuilty", spec := "complaintsGuilty", unfollowed := true, recurses := true, named := ["signatory/digest.start", "signatory/digest.numbers"], apart := false, laid := [("signatory/digest.start", laid_signatory_digest_start), ("signatory/digest.numbers", laid_signatory_digest_numbers)] }
def ComplaintsGuiltySaid : Prop := complaintsGuiltyRow.holds Tryz.pinned (OpenSpec.ofChange complaintsGuiltySpec)

/-- ITS FALSE NEIGHBOUR: 'it returns false'. Refute it at one input. -/
def complaintsGuiltyWrong : ChangeSpec := { name := "complaintsGuilty", fn := fun _ => fun
  | [d1, d2, d3, d4, d5, d6] => { results := [.lit (.bool false)], args := [d1, d2, d3, d4, d5, d6] }
  | _ => none }
def ComplaintsGuiltyWrongFalsely : Prop := complaintsGuiltyRow.holds Tryz.pinned (OpenSpec.ofChange complaintsGuiltyWrong)

/-- 'signatorylaw36.ComplaintsHonest': WHATEVER THE INPUT: true; the input reads as it did. -/
def complaintsHonestSpec : ChangeSpec := { name := "complaintsHonest", fn := fun _ => fun
  | [d1, d2, d3, d4, d5, d6] => { results := [.lit (.bool true)], args := [d1, d2, d3, d4, d5, d6] }
  | _ => none }
def complaintsHonestRow : OpenClaim := { program := "ytggnipkfliompaagreatdoor", sum := "b41e4ae9603ceba068191e41631943e7629ebda6f9ea047282a35652d67a3a81", func := "signatory/signatorylaw36.ComplaintsHonest", spec := "complaintsHonest", unfollowed := true, recurses := true, named := ["signatory/digest.start", "signatory/digest.numbers"], apart := false, laid := [("signatory/digest.start", laid_signatory_digest_start), ("signatory/digest.numbers", laid_signatory_digest_numbers)] }
def ComplaintsHonestSaid : Prop := complaintsHonestRow.holds Tryz.pinned (OpenSpec.ofChange complaintsHonestSpec)

/-- ITS FALSE NEIGHBOUR: 'it returns false'. Refute it at one input. -/
def complaintsHonestWrong : ChangeSpec := { name := "complaintsHonest", fn := fun _ => fun
  | [d1, d2, d3, d4, d5, d6] => { results := [.lit (.bool false)], args := [d1, d2, d3, d4, d5, d6] }
  | _ => none }
def ComplaintsHonestWrongFalsely : Prop := complaintsHonestRow.holds Tryz.pinned (OpenSpec.ofChange complaintsHonestWrong)

/-- 'signatorylaw37.KeygenSpec': WHATEVER THE INPUT: true; the input reads as it did. -/
def keygenSpecSpec : ChangeSpec := { name := "keygenSpec", fn := fun _ => fun
  | [d1, d2, d3, d4, d5, d6, d7] => { results := [.lit (.bool true)], args := [d1, d2, d3, d4, d5, d6, d7] }
  | _ => none }
def keygenSpecRow : OpenClaim := { program := "ytggnipkfliompaagreatdoor", sum := "b41e4ae9603ceba068191e41631943e7629ebda6f9ea047282a35652d67a3a81", func := "signatory/signatorylaw37.KeygenSpec", spec := "keygenSpec", unfollowed := true, recurses := true, named := ["signatory/digest.start", "signatory/digest.numbers"], apart := false, laid := [("signatory/digest.start", laid_signatory_digest_start), ("signatory/digest.numbers", laid_signatory_digest_numbers)] }
def KeygenSpecSaid : Prop := keygenSpecRow.holds Tryz.pinned (OpenSpec.ofChange keygenSpecSpec)

/-- ITS FALSE NEIGHBOUR: 'it returns false'. Refute it at one input. -/
def keygenSpecWrong : ChangeSpec := { name := "keygenSpec", fn := fun _ => fun
  | [d1, d2, d3, d4, d5, d6, d7] => { results := [.lit (.bool false)], args := [d1, d2, d3, d4, d5, d6, d7] }
  | _ => none }
def KeygenSpecWrongFalsely : Prop := keygenSpecRow.holds Tryz.pinned (OpenSpec.ofChange keygenSpecWrong)

/-- 'signatorylaw37.KeygenQualifiedSpec': WHATEVER THE INPUT: true; the input reads as it did. -/
def keygenQualifiedSpecSpec : ChangeSpec := { name := "keygenQualifiedSpec", fn := fun _ => fun
  | [d1, d2, d3, d4, d5, d6, d7] => { results := [.lit (.bool true)], args := [d1, d2, d3, d4, d5, d6, d7] }
  | _ => none }
def keygenQualifiedSpecRow : OpenClaim := { program := "ytggnipkfliompaagreatdoor", sum := "b41e4ae9603ceba068191e41631943e7629ebda6f9ea047282a35652d67a3a81", func := "signatory/signatorylaw37.KeygenQualifiedSpec", spec := "keygenQualifiedSpec", unfollowed := true, recurses := true, named := ["signatory/digest.start", "signatory/digest.numbers"], apart := false, laid := [("signatory/digest.start", laid_signatory_digest_start), ("signatory/digest.numbers", laid_signatory_digest_numbers)] }
def KeygenQualifiedSpecSaid : Prop := keygenQualifiedSpecRow.holds Tryz.pinned (OpenSpec.ofChange keygenQualifiedSpecSpec)

/-- ITS FALSE NEIGHBOUR: 'it returns false'. Refute it at one input. -/
def keygenQualifiedSpecWrong : ChangeSpec := { name := "keygenQualifiedSpec", fn := fun _ => fun
  | [d1, d2, d3, d4, d5, d6, d7] => { results := [.lit (.bool false)], args := [d1, d2, d3, d4, d5, d6, d7] }
  | _ => none }
def KeygenQualifiedSpecWrongFalsely : Prop := keygenQualifiedSpecRow.holds Tryz.pinned (OpenSpec.ofChange keygenQualifiedSpecWrong)

/-- 'signatorylaw37.KeygenHonest': WHATEVER THE INPUT: true; the input reads as it did. -/
def keygenHonestSpec : ChangeSpec := { name := "keygenHonest", fn := fun _ => fun
  | [d1, d2, d3, d4, d5, d6, d7, d8] => { results := [.lit (.bool true)], args := [d1, d2, d3, d4, d5, d6, d7, d8] }
  | _ => none }
def keygenHonestRow : OpenClaim := { program := "ytggnipkfliompaagreatdoor", sum := "b41e4ae9603ceba068191e41631943e7629ebda6f9ea047282a35652d67a3a81", func := "signatory/signatorylaw37.KeygenHonest", spec := "keygenHonest", unfollowed := true, recurses := true, named := ["signatory/digest.start", "signatory/digest.numbers"], apart := false, laid := [("signatory/digest.start", laid_signatory_digest_start), ("signatory/digest.numbers", laid_signatory_digest_numbers)] }
def KeygenHonestSaid : Prop := keygenHonestRow.holds Tryz.pinned (OpenSpec.ofChange keygenHonestSpec)

/-- ITS FALSE NEIGHBOUR: 'it returns false'. Refute it at one input. -/
def keygenHonestWrong : ChangeSpec := { name := "keygenHonest", fn := fun _ => fun
  | [d1, d2, d3, d4, d5, d6, d7, d8] => { results := [.lit (.bool false)], args := [d1, d2, d3, d4, d5, d6, d7, d8] }
  | _ => none }
def KeygenHonestWrongFalsely : Prop := keygenHonestRow.holds Tryz.pinned (OpenSpec.ofChange keygenHonestWrong)

/-- 'signatorylaw37.KeygenOthers': WHATEVER THE INPUT: true; the input reads as it did. -/
def keygenOthersSpec : ChangeSpec := { name := "keygenOthers", fn := fun _ => fun
  | [d1, d2, d3, d4] => { results := [.lit (.bool true)], args := [d1, d2, d3, d4] }
  | _ => none }
def keygenOthersRow : OpenClaim := { program := "ytggnipkfliompaagreatdoor", sum := "b41e4ae9603ceba068191e41631943e7629ebda6f9ea047282a35652d67a3a81", func := "signatory/signatorylaw37.KeygenOthers", spec := "keygenOthers", unfollowed := true, recurses := true, named := ["signatory/digest.start", "signatory/digest.numbers"], apart := false, laid := [("signatory/digest.start", laid_signatory_digest_start), ("signatory/digest.numbers", laid_signatory_digest_numbers)] }
def KeygenOthersSaid : Prop := keygenOthersRow.holds Tryz.pinned (OpenSpec.ofChange keygenOthersSpec)

/-- ITS FALSE NEIGHBOUR: 'it returns false'. Refute it at one input. -/
def keygenOthersWrong : ChangeSpec := { name := "keygenOthers", fn := fun _ => fun
  | [d1, d2, d3, d4] => { results := [.lit (.bool false)], args := [d1, d2, d3, d4] }
  | _ => none }
def KeygenOthersWrongFalsely : Prop := keygenOthersRow.holds Tryz.pinned (OpenSpec.ofChange keygenOthersWrong)

/-- 'signatorylaw37.KeygenFits': WHATEVER THE INPUT: true; the input reads as it did. -/
def keygenFitsSpec : ChangeSpec := { name := "keygenFits", fn := fun _ => fun
  | [d1, d2, d3, d4] => { results := [.lit (.bool true)], args := [d1, d2, d3, d4] }
  | _ => none }
def keygenFitsRow : OpenClaim := { program := "ytggnipkfliompaagreatdoor", sum := "b41e4ae9603ceba068191e41631943e7629ebda6f9ea047282a35652d67a3a81", func := "signatory/signatorylaw37.KeygenFits", spec := "keygenFits", unfollowed := true, recurses := true, named := ["signatory/digest.start", "signatory/digest.numbers"], apart := false, laid := [("signatory/digest.start", laid_signatory_digest_start), ("signatory/digest.numbers", laid_signatory_digest_numbers)] }
def KeygenFitsSaid : Prop := keygenFitsRow.holds Tryz.pinned (OpenSpec.ofChange keygenFitsSpec)

/-- ITS FALSE NEIGHBOUR: 'it returns false'. Refute it at one input. -/
def keygenFitsWrong : ChangeSpec := { name := "keygenFits", fn := fun _ => fun
  | [d1, d2, d3, d4] => { results := [.lit (.bool false)], args := [d1, d2, d3, d4] }
  | _ => none }
def KeygenFitsWrongFalsely : Prop := keygenFitsRow.holds Tryz.pinned (OpenSpec.ofChange keygenFitsWrong)

/-- 'signatorylaw37.KeygenTogether': WHATEVER THE INPUT: true; the input reads as it did. -/
def keygenTogetherSpec : ChangeSpec := { name := "keygenTogether", fn := fun _ => fun
  | [d1, d2, d3, d4] => { results := [.lit (.bool true)], args := [d1, d2, d3, d4] }
  | _ => none }
def keygenTogetherRow : OpenClaim := { program := "ytggnipkfliompaagreatdoor", sum := "b41e4ae9603ceba068191e41631943e7629ebda6f9ea047282a35652d67a3a81", func := "signatory/signatorylaw37.KeygenTogether", spec := "keygenTogether", unfollowed := true, recurses := true, named := ["signatory/digest.start", "signatory/digest.numbers"], apart := false, laid := [("signatory/digest.start", laid_signatory_digest_start), ("signatory/digest.numbers", laid_signatory_digest_numbers)] }
def KeygenTogetherSaid : Prop := keygenTogetherRow.holds Tryz.pinned (OpenSpec.ofChange keygenTogetherSpec)

/-- ITS FALSE NEIGHBOUR: 'it returns false'. Refute it at one input. -/
def keygenTogetherWrong : ChangeSpec := { name := "keygenTogether", fn := fun _ => fun
  | [d1, d2, d3, d4] => { results := [.lit (.bool false)], args := [d1, d2, d3, d4] }
  | _ => none }
def KeygenTogetherWrongFalsely : Prop := keygenTogetherRow.holds Tryz.pinned (OpenSpec.ofChange keygenTogetherWrong)

/- THE SECOND FORM. 'bulk': how many values and letters a reading holds, each counted each time it is reached (what is shared counts as often as it is met; a slice's spare places count too). A statement '..UptoSaid' is the law's where the arguments, and the package variables that the reading takes, are together of bulk at most 1048576: NARROWER than '..Said'. Prove '..Said' where nothing that the law and all that it calls make is longer than what came in: it says more and counts as full. Else prove '..UptoSaid'. A law counts once. -/
mutual
def uptoBulk {H : Type} : DataW H → Nat
  | .lit (.string bytes) => bytes.length + 1
  | .lit _ => 1
  | .nil => 1
  | .ptr d => uptoBulk d + 1
  | .slice elems spare => uptoBulkAll elems + uptoBulkAll spare + 1
  | .agg parts => uptoBulkAll parts + 1
  | .iface _ d => uptoBulk d + 1
  | .map entries => uptoBulkEntries entries + 1
  | .held _ => 1
def uptoBulkAll {H : Type} : List (DataW H) → Nat
  | [] => 0
  | d :: r => uptoBulk d + uptoBulkAll r
def uptoBulkEntries {H : Type} : List (Lit × DataW H) → Nat
  | [] => 0
  | x :: r => uptoBulkEntry x + uptoBulkEntries r
def uptoBulkEntry {H : Type} : Lit × DataW H → Nat
  | (.string bytes, d) => bytes.length + uptoBulk d + 1
  | (_, d) => uptoBulk d + 1
 end
def uptoSmall : (H : Type) → List (DataW H) → Bool := fun _ ds => decide (uptoBulkAll ds ≤ 1048576)
def OpenSpec.upto (s : _root_.Go.ChangeSpec) : _root_.Go.OpenSpec := { _root_.Go.OpenSpec.ofChange s with cond := some uptoSmall }

/-- 'signatorylaw36.ComplaintsSpec', WHERE WHAT IT READS IS OF BULK AT MOST 1048576: true; the input reads as it did. -/
def complaintsSpecUptoRow : OpenClaim := { program := "ytggnipkfliompaagreatdoor", sum := "b41e4ae9603ceba068191e41631943e7629ebda6f9ea047282a35652d67a3a81", func := "signatory/signatorylaw36.ComplaintsSpec", spec := "complaintsSpec", unfollowed := true, recurses := true, named := ["signatory/digest.start", "signatory/digest.numbers"], apart := false, laid := [("signatory/digest.start", laid_signatory_digest_start), ("signatory/digest.numbers", laid_signatory_digest_numbers)], narrowed := true }
def ComplaintsSpecUptoSaid : Prop := complaintsSpecUptoRow.holds Tryz.pinned (OpenSpec.upto complaintsSpecSpec)

/-- 'signatorylaw36.ComplaintsSettleSpec', WHERE WHAT IT READS IS OF BULK AT MOST 1048576: true; the input reads as it did. -/
def complaintsSettleSpecUptoRow : OpenClaim := { program := "ytggnipkfliompaagreatdoor", sum := "b41e4ae9603ceba068191e41631943e7629ebda6f9ea047282a35652d67a3a81", func := "signatory/signatorylaw36.ComplaintsSettleSpec", spec := "complaintsSettleSpec", unfollowed := true, recurses := true, named := ["signatory/digest.start", "signatory/digest.numbers"], apart := false, laid := [("signatory/digest.start", laid_signatory_digest_start), ("signatory/digest.numbers", laid_signatory_digest_numbers)], narrowed := true }
def ComplaintsSettleSpecUptoSaid : Prop := complaintsSettleSpecUptoRow.holds Tryz.pinned (OpenSpec.upto complaintsSettleSpecSpec)

/-- 'signatorylaw36.ComplaintsGuilty', WHERE WHAT IT READS IS OF BULK AT MOST 1048576: true; the input reads as it did. -/
def complaintsGuiltyUptoRow : OpenClaim := { program := "ytggnipkfliompaagreatdoor", sum := "b41e4ae9603ceba068191e41631943e7629ebda6f9ea047282a35652d67a3a81", func := "signatory/signatorylaw36.ComplaintsGuilty", spec := "complaintsGuilty", unfollowed := true, recurses := true, named := ["signatory/digest.start", "signatory/digest.numbers"], apart := false, laid := [("signatory/digest.start", laid_signatory_digest_start), ("signatory/digest.numbers", laid_signatory_digest_numbers)], narrowed := true }
def ComplaintsGuiltyUptoSaid : Prop := complaintsGuiltyUptoRow.holds Tryz.pinned (OpenSpec.upto complaintsGuiltySpec)

/-- 'signatorylaw36.ComplaintsHonest', WHERE WHAT IT READS IS OF BULK AT MOST 1048576: true; the input reads as it did. -/
def complaintsHonestUptoRow : OpenClaim := { program := "ytggnipkfliompaagreatdoor", sum := "b41e4ae9603ceba068191e41631943e7629ebda6f9ea047282a35652d67a3a81", func := "signatory/signatorylaw36.ComplaintsHonest", spec := "complaintsHonest", unfollowed := true, recurses := true, named := ["signatory/digest.start", "signatory/digest.numbers"], apart := false, laid := [("signatory/digest.start", laid_signatory_digest_start), ("signatory/digest.numbers", laid_signatory_digest_numbers)], narrowed := true }
def ComplaintsHonestUptoSaid : Prop := complaintsHonestUptoRow.holds Tryz.pinned (OpenSpec.upto complaintsHonestSpec)

/-- 'signatorylaw37.KeygenSpec', WHERE WHAT IT READS IS OF BULK AT MOST 1048576: true; the input reads as it did. -/
def keygenSpecUptoRow : OpenClaim := { program := "ytggnipkfliompaagreatdoor", sum := "b41e4ae9603ceba068191e41631943e7629ebda6f9ea047282a35652d67a3a81", func := "signatory/signatorylaw37.KeygenSpec", spec := "keygenSpec", unfollowed := true, recurses := true, named := ["signatory/digest.start", "signatory/digest.numbers"], apart := false, laid := [("signatory/digest.start", laid_signatory_digest_start), ("signatory/digest.numbers", laid_signatory_digest_numbers)], narrowed := true }
def KeygenSpecUptoSaid : Prop := keygenSpecUptoRow.holds Tryz.pinned (OpenSpec.upto keygenSpecSpec)

/-- 'signatorylaw37.KeygenQualifiedSpec', WHERE WHAT IT READS IS OF BULK AT MOST 1048576: true; the input reads as it did. -/
def keygenQualifiedSpecUptoRow : OpenClaim := { program := "ytggnipkfliompaagreatdoor", sum := "b41e4ae9603ceba068191e41631943e7629ebda6f9ea047282a35652d67a3a81", func := "signatory/signatorylaw37.KeygenQualifiedSpec", spec := "keygenQualifiedSpec", unfollowed := true, recurses := true, named := ["signatory/digest.start", "signatory/digest.numbers"], apart := false, laid := [("signatory/digest.start", laid_signatory_digest_start), ("signatory/digest.numbers", laid_signatory_digest_numbers)], narrowed := true }
def KeygenQualifiedSpecUptoSaid : Prop := keygenQualifiedSpecUptoRow.holds Tryz.pinned (OpenSpec.upto keygenQualifiedSpecSpec)

/-- 'signatorylaw37.KeygenHonest', WHERE WHAT IT READS IS OF BULK AT MOST 1048576: true; the input reads as it did. -/
def keygenHonestUptoRow : OpenClaim := { program := "ytggnipkfliompaagreatdoor", sum := "b41e4ae9603ceba068191e41631943e7629ebda6f9ea047282a35652d67a3a81", func := "signatory/signatorylaw37.KeygenHonest", spec := "keygenHonest", unfollowed := true, recurses := true, named := ["signatory/digest.start", "signatory/digest.numbers"], apart := false, laid := [("signatory/digest.start", laid_signatory_digest_start), ("signatory/digest.numbers", laid_signatory_digest_numbers)], narrowed := true }
def KeygenHonestUptoSaid : Prop := keygenHonestUptoRow.holds Tryz.pinned (OpenSpec.upto keygenHonestSpec)

/-- 'signatorylaw37.KeygenOthers', WHERE WHAT IT READS IS OF BULK AT MOST 1048576: true; the input reads as it did. -/
def keygenOthersUptoRow : OpenClaim := { program := "ytggnipkfliompaagreatdoor", sum := "b41e4ae9603ceba068191e41631943e7629ebda6f9ea047282a35652d67a3a81", func := "signatory/signatorylaw37.KeygenOthers", spec := "keygenOthers", unfollowed := true, recurses := true, named := ["signatory/digest.start", "signatory/digest.numbers"], apart := false, laid := [("signatory/digest.start", laid_signatory_digest_start), ("signatory/digest.numbers", laid_signatory_digest_numbers)], narrowed := true }
def KeygenOthersUptoSaid : Prop := keygenOthersUptoRow.holds Tryz.pinned (OpenSpec.upto keygenOthersSpec)

/-- 'signatorylaw37.KeygenFits', WHERE WHAT IT READS IS OF BULK AT MOST 1048576: true; the input reads as it did. -/
def keygenFitsUptoRow : OpenClaim := { program := "ytggnipkfliompaagreatdoor", sum := "b41e4ae9603ceba068191e41631943e7629ebda6f9ea047282a35652d67a3a81", func := "signatory/signatorylaw37.KeygenFits", spec := "keygenFits", unfollowed := true, recurses := true, named := ["signatory/digest.start", "signatory/digest.numbers"], apart := false, laid := [("signatory/digest.start", laid_signatory_digest_start), ("signatory/digest.numbers", laid_signatory_digest_numbers)], narrowed := true }
def KeygenFitsUptoSaid : Prop := keygenFitsUptoRow.holds Tryz.pinned (OpenSpec.upto keygenFitsSpec)

/-- 'signatorylaw37.KeygenTogether', WHERE WHAT IT READS IS OF BULK AT MOST 1048576: true; the input reads as it did. -/
def keygenTogetherUptoRow : OpenClaim := { program := "ytggnipkfliompaagreatdoor", sum := "b41e4ae9603ceba068191e41631943e7629ebda6f9ea047282a35652d67a3a81", func := "signatory/signatorylaw37.KeygenTogether", spec := "keygenTogether", unfollowed := true, recurses := true, named := ["signatory/digest.start", "signatory/digest.numbers"], apart := false, laid := [("signatory/digest.start", laid_signatory_digest_start), ("signatory/digest.numbers", laid_signatory_digest_numbers)], narrowed := true }
def KeygenTogetherUptoSaid : Prop := keygenTogetherUptoRow.holds Tryz.pinned (OpenSpec.upto keygenTogetherSpec)

end Rows
end Go.Proofs.YtggnipkfliompaaGreatDoor
