/-
  NARROWER THAN 'FOR EVERY INPUT', by the rows' own cells (each row's printed sentence says how): RecordTells: laid · DnsmsgTells: laid · DnsmsgBack: laid · DnsmsgEnds: laid · DnsmsgCompressed: laid · DnsmsgRefuses: laid · DnsmsgHeads: laid.
  DERIVED. THE GIVEN ROWS OF THIS SEAT. 7 by the template 'for every input the law returns true; each argument reads behind the call as it read before'; 0 by the template 'total and deterministic' (their statements: YtlkneoednkhleaaGreatDoorTotals.lean).
  GIVEN WITH THE SEED: the statements are not yours to turn. If you find one false, say at which input.
  Laid BY PROGRAM, IN A SANDBOX (cutbox-rows.mjs): the forced cells as the released guide's own fill.sh prints them over the translation 959e46d3132d7e50… (all of the seat's roots in one cut). By AI agents, Wed Nov 11 2026. No macro, syntax, notation, axiom, sorry.
-/
import Derived.Test.YtlkneoednkhleaaGreatDoorChecked
import GoSem.PinnedTables
import GoSem.Claim
import GoSem.ClaimJoined
import GoSem.ClaimMapViews
import Derived.JoinedTies
import Derived.KernelRfl
namespace Go.Proofs.YtlkneoednkhleaaGreatDoor
/- THE CELL 'sum', in the pinned program and in every row, IS THE sha256 OF THE DUMP (.gsa) THAT YtlkneoednkhleaaGreatDoorProg.lean LOADS. Nothing in Lean hashes anything: it is a label: what it is worth is what the hold of that sum in a sandbox is worth. -/
noncomputable def Tryz.pinned : Pinned := { name := "ytlkneoednkhleaagreatdoor", sum := "959e46d3132d7e5040c0e31ce078cee0eb2e25a6fe8cc4d1b39476476f97305e", checked := Tryz.checked }
namespace Rows
def none {H : Type} : Left H := { results := [], args := [] }

/- WHAT THE LISTED PACKAGE-LEVEL VARIABLES READ AS WHEN THE CALL BEGINS. Each datum BY PROGRAM (the guide's laid-datum.mjs) off the statement by which the dump's own 'gosem.cut.vars' lays the variable. In a bare row this is a premise. The card (YtlkneoednkhleaaGreatDoorCards.lean) ties it to the program's text. -/
def laid_unicode_utf8_acceptRanges {H : Type} : DataW H := .agg [.agg [.lit (.int .u8 128), .lit (.int .u8 191)], .agg [.lit (.int .u8 160), .lit (.int .u8 191)], .agg [.lit (.int .u8 128), .lit (.int .u8 159)], .agg [.lit (.int .u8 144), .lit (.int .u8 191)], .agg [.lit (.int .u8 128), .lit (.int .u8 143)], .agg [.lit (.int .u8 0), .lit (.int .u8 0)], .agg [.lit (.int .u8 0), .lit (.int .u8 0)], .agg [.lit (.int .u8 0), .lit (.int .u8 0)], .agg [.lit (.int .u8 0), .lit (.int .u8 0)], .agg [.lit (.int .u8 0), .lit (.int .u8 0)], .agg [.lit (.int .u8 0), .lit (.int .u8 0)], .agg [.lit (.int .u8 0), .lit (.int .u8 0)], .agg [.lit (.int .u8 0), .lit (.int .u8 0)], .agg [.lit (.int .u8 0), .lit (.int .u8 0)], .agg [.lit (.int .u8 0), .lit (.int .u8 0)], .agg [.lit (.int .u8 0), .lit (.int .u8 0)]]
def laid_errors_errorType {H : Type} : DataW H := .iface "internal/reflectlite.rtype" (.agg [.ptr (.lit (.string [101, 114, 114, 111, 114]))])
/-- One of Go's own tables, pinned by name: the form's constant. -/
def laid_unicode_utf8_first : DataW Unit := Go.Pinned.utf8First

/-- 'stockadelaw13.RecordTells': WHATEVER THE INPUT: true; the input reads as it did. -/
def recordTellsSpec : ChangeSpec := { name := "recordTells", fn := fun _ => fun
  | [d1, d2, d3, d4] => { results := [.lit (.bool true)], args := [d1, d2, d3, d4] }
  | _ => none }
def recordTellsRow : OpenClaim := { program := "ytlkneoednkhleaagreatdoor", sum := "959e46d3132d7e5040c0e31ce078cee0eb2e25a6fe8cc4d1b39476476f97305e", func := "stockade/stockadelaw13.RecordTells", spec := "recordTells", inPlace := ["internal/abi.NoEscape", "internal/bytealg.MakeNoZero", "internal/reflectlite.TypeOf", "internal/reflectlite.ValueOf", "(internal/reflectlite.Value).Type", "(internal/reflectlite.Value).IsNil", "(internal/reflectlite.Value).Elem", "(internal/reflectlite.Value).Set", "internal/bytealg.CountString", "internal/bytealg.IndexByteString", "internal/bytealg.IndexString"], unfollowed := true, recurses := true, named := ["errors.errorType", "unicode/utf8.first", "unicode/utf8.acceptRanges", "internal/bytealg.MaxLen"], apart := false, laid := [("unicode/utf8.acceptRanges", laid_unicode_utf8_acceptRanges), ("errors.errorType", laid_errors_errorType), ("unicode/utf8.first", laid_unicode_utf8_first)] }
def RecordTellsSaid : Prop := recordTellsRow.holds Tryz.pinned (OpenSpec.ofChange recordTellsSpec)

/-- ITS FALSE NEIGHBOUR: 'it returns false'. Refute it at one input. -/
def recordTellsWrong : ChangeSpec := { name := "recordTells", fn := fun _ => fun
  | [d1, d2, d3, d4] => { results := [.lit (.bool false)], args := [d1, d2, d3, d4] }
  | _ => none }
def RecordTellsWrongFalsely : Prop := recordTellsRow.holds Tryz.pinned (OpenSpec.ofChange recordTellsWrong)

/-- 'stockadelaw14.DnsmsgTells': WHATEVER THE INPUT: true; the input reads as it did. -/
def dnsmsgTellsSpec : ChangeSpec := { name := "dnsmsgTells", fn := fun _ => fun
  | [d1, d2] => { results := [.lit (.bool true)], args := [d1, d2] }
  | _ => none }
def dnsmsgTellsRow : OpenClaim := { program := "ytlkneoednkhleaagreatdoor", sum := "959e46d3132d7e5040c0e31ce078cee0eb2e25a6fe8cc4d1b39476476f97305e", func := "stockade/stockadelaw14.DnsmsgTells", spec := "dnsmsgTells", inPlace := ["internal/bytealg.CountString", "internal/bytealg.IndexByteString", "internal/bytealg.IndexString", "internal/reflectlite.TypeOf", "internal/reflectlite.ValueOf", "(internal/reflectlite.Value).Type", "(internal/reflectlite.Value).IsNil", "(internal/reflectlite.Value).Elem", "(internal/reflectlite.Value).Set", "internal/abi.NoEscape", "internal/bytealg.MakeNoZero"], unfollowed := true, recurses := true, named := ["unicode/utf8.first", "unicode/utf8.acceptRanges", "internal/bytealg.MaxLen", "errors.errorType"], apart := false, laid := [("unicode/utf8.acceptRanges", laid_unicode_utf8_acceptRanges), ("errors.errorType", laid_errors_errorType), ("unicode/utf8.first", laid_unicode_utf8_first)] }
def DnsmsgTellsSaid : Prop := dnsmsgTellsRow.holds Tryz.pinned (OpenSpec.ofChange dnsmsgTellsSpec)

/-- ITS FALSE NEIGHBOUR: 'it returns false'. Refute it at one input. -/
def dnsmsgTellsWrong : ChangeSpec := { name := "dnsmsgTells", fn := fun _ => fun
  | [d1, d2] => { results := [.lit (.bool false)], args := [d1, d2] }
  | _ => none }
def DnsmsgTellsWrongFalsely : Prop := dnsmsgTellsRow.holds Tryz.pinned (OpenSpec.ofChange dnsmsgTellsWrong)

/-- 'stockadelaw14.DnsmsgBack': WHATEVER THE INPUT: true; the input reads as it did. -/
def dnsmsgBackSpec : ChangeSpec := { name := "dnsmsgBack", fn := fun _ => fun
  | [d1, d2] => { results := [.lit (.bool true)], args := [d1, d2] }
  | _ => none }
def dnsmsgBackRow : OpenClaim := { program := "ytlkneoednkhleaagreatdoor", sum := "959e46d3132d7e5040c0e31ce078cee0eb2e25a6fe8cc4d1b39476476f97305e", func := "stockade/stockadelaw14.DnsmsgBack", spec := "dnsmsgBack", inPlace := ["internal/bytealg.CountString", "internal/bytealg.IndexByteString", "internal/bytealg.IndexString", "internal/reflectlite.TypeOf", "internal/reflectlite.ValueOf", "(internal/reflectlite.Value).Type", "(internal/reflectlite.Value).IsNil", "(internal/reflectlite.Value).Elem", "(internal/reflectlite.Value).Set", "internal/abi.NoEscape", "internal/bytealg.MakeNoZero"], unfollowed := true, recurses := true, named := ["unicode/utf8.first", "unicode/utf8.acceptRanges", "internal/bytealg.MaxLen", "errors.errorType"], apart := false, laid := [("unicode/utf8.acceptRanges", laid_unicode_utf8_acceptRanges), ("errors.errorType", laid_errors_errorType), ("unicode/utf8.first", laid_unicode_utf8_first)] }
def DnsmsgBackSaid : Prop := dnsmsgBackRow.holds Tryz.pinned (OpenSpec.ofChange dnsmsgBackSpec)

/-- ITS FALSE NEIGHBOUR: 'it returns false'. Refute it at one input. -/
def dnsmsgBackWrong : ChangeSpec := { name := "dnsmsgBack", fn := fun _ => fun
  | [d1, d2] => { results := [.lit (.bool false)], args := [d1, d2] }
  | _ => none }
def DnsmsgBackWrongFalsely : Prop := dnsmsgBackRow.holds Tryz.pinned (OpenSpec.ofChange dnsmsgBackWrong)

/-- 'stockadelaw14.DnsmsgEnds': WHATEVER THE INPUT: true; the input reads as it did. -/
def dnsmsgEndsSpec : ChangeSpec := { name := "dnsmsgEnds", fn := fun _ => fun
  | [d1, d2, d3, d4] => { results := [.lit (.bool true)], args := [d1, d2, d3, d4] }
  | _ => none }
def dnsmsgEndsRow : OpenClaim := { program := "ytlkneoednkhleaagreatdoor", sum := "959e46d3132d7e5040c0e31ce078cee0eb2e25a6fe8cc4d1b39476476f97305e", func := "stockade/stockadelaw14.DnsmsgEnds", spec := "dnsmsgEnds", inPlace := ["internal/bytealg.CountString", "internal/bytealg.IndexByteString", "internal/bytealg.IndexString", "internal/reflectlite.TypeOf", "internal/reflectlite.ValueOf", "(internal/reflectlite.Value).Type", "(internal/reflectlite.Value).IsNil", "(internal/reflectlite.Value).Elem", "(internal/reflectlite.Value).Set", "internal/abi.NoEscape", "internal/bytealg.MakeNoZero"], unfollowed := true, recurses := true, named := ["unicode/utf8.first", "unicode/utf8.acceptRanges", "internal/bytealg.MaxLen", "errors.errorType"], apart := false, laid := [("unicode/utf8.acceptRanges", laid_unicode_utf8_acceptRanges), ("errors.errorType", laid_errors_errorType), ("unicode/utf8.first", laid_unicode_utf8_first)] }
def DnsmsgEndsSaid : Prop := dnsmsgEndsRow.holds Tryz.pinned (OpenSpec.ofChange dnsmsgEndsSpec)

/-- ITS FALSE NEIGHBOUR: 'it returns false'. Refute it at one input. -/
def dnsmsgEndsWrong : ChangeSpec := { name := "dnsmsgEnds", fn := fun _ => fun
  | [d1, d2, d3, d4] => { results := [.lit (.bool false)], args := [d1, d2, d3, d4] }
  | _ => none }
def DnsmsgEndsWrongFalsely : Prop := dnsmsgEndsRow.holds Tryz.pinned (OpenSpec.ofChange dnsmsgEndsWrong)

/-- 'stockadelaw14.DnsmsgCompressed': WHATEVER THE INPUT: true; the input reads as it did. -/
def dnsmsgCompressedSpec : ChangeSpec := { name := "dnsmsgCompressed", fn := fun _ => fun
  | [d1, d2, d3] => { results := [.lit (.bool true)], args := [d1, d2, d3] }
  | _ => none }
def dnsmsgCompressedRow : OpenClaim := { program := "ytlkneoednkhleaagreatdoor", sum := "959e46d3132d7e5040c0e31ce078cee0eb2e25a6fe8cc4d1b39476476f97305e", func := "stockade/stockadelaw14.DnsmsgCompressed", spec := "dnsmsgCompressed", inPlace := ["internal/reflectlite.TypeOf", "internal/reflectlite.ValueOf", "(internal/reflectlite.Value).Type", "(internal/reflectlite.Value).IsNil", "(internal/reflectlite.Value).Elem", "(internal/reflectlite.Value).Set", "internal/abi.NoEscape", "internal/bytealg.MakeNoZero", "internal/bytealg.CountString", "internal/bytealg.IndexByteString", "internal/bytealg.IndexString"], unfollowed := true, recurses := true, named := ["errors.errorType", "unicode/utf8.first", "unicode/utf8.acceptRanges", "internal/bytealg.MaxLen"], apart := false, laid := [("unicode/utf8.acceptRanges", laid_unicode_utf8_acceptRanges), ("errors.errorType", laid_errors_errorType), ("unicode/utf8.first", laid_unicode_utf8_first)] }
def DnsmsgCompressedSaid : Prop := dnsmsgCompressedRow.holds Tryz.pinned (OpenSpec.ofChange dnsmsgCompressedSpec)

/-- ITS FALSE NEIGHBOUR: 'it returns false'. Refute it at one input. -/
def dnsmsgCompressedWrong : ChangeSpec := { name := "dnsmsgCompressed", fn := fun _ => fun
  | [d1, d2, d3] => { results := [.lit (.bool false)], args := [d1, d2, d3] }
  | _ => none }
def DnsmsgCompressedWrongFalsely : Prop := dnsmsgCompressedRow.holds Tryz.pinned (OpenSpec.ofChange dnsmsgCompressedWrong)

/-- 'stockadelaw14.DnsmsgRefuses': WHATEVER THE INPUT: true; the input reads as it did. -/
def dnsmsgRefusesSpec : ChangeSpec := { name := "dnsmsgRefuses", fn := fun _ => fun
  | [d1, d2, d3] => { results := [.lit (.bool true)], args := [d1, d2, d3] }
  | _ => none }
def dnsmsgRefusesRow : OpenClaim := { program := "ytlkneoednkhleaagreatdoor", sum := "959e46d3132d7e5040c0e31ce078cee0eb2e25a6fe8cc4d1b39476476f97305e", func := "stockade/stockadelaw14.DnsmsgRefuses", spec := "dnsmsgRefuses", inPlace := ["internal/bytealg.CountString", "internal/bytealg.IndexByteString", "internal/bytealg.IndexString", "internal/reflectlite.TypeOf", "internal/reflectlite.ValueOf", "(internal/reflectlite.Value).Type", "(internal/reflectlite.Value).IsNil", "(internal/reflectlite.Value).Elem", "(internal/reflectlite.Value).Set", "internal/abi.NoEscape", "internal/bytealg.MakeNoZero"], unfollowed := true, recurses := true, named := ["unicode/utf8.first", "unicode/utf8.acceptRanges", "internal/bytealg.MaxLen", "errors.errorType"], apart := false, laid := [("unicode/utf8.acceptRanges", laid_unicode_utf8_acceptRanges), ("errors.errorType", laid_errors_errorType), ("unicode/utf8.first", laid_unicode_utf8_first)] }
def DnsmsgRefusesSaid : Prop := dnsmsgRefusesRow.holds Tryz.pinned (OpenSpec.ofChange dnsmsgRefusesSpec)

/-- ITS FALSE NEIGHBOUR: 'it returns false'. Refute it at one input. -/
def dnsmsgRefusesWrong : ChangeSpec := { name := "dnsmsgRefuses", fn := fun _ => fun
  | [d1, d2, d3] => { results := [.lit (.bool false)], args := [d1, d2, d3] }
  | _ => none }
def DnsmsgRefusesWrongFalsely : Prop := dnsmsgRefusesRow.holds Tryz.pinned (OpenSpec.ofChange dnsmsgRefusesWrong)

/-- 'stockadelaw14.DnsmsgHeads': WHATEVER THE INPUT: true; the input reads as it did. -/
def dnsmsgHeadsSpec : ChangeSpec := { name := "dnsmsgHeads", fn := fun _ => fun
  | [d1, d2] => { results := [.lit (.bool true)], args := [d1, d2] }
  | _ => none }
def dnsmsgHeadsRow : OpenClaim := { program := "ytlkneoednkhleaagreatdoor", sum := "959e46d3132d7e5040c0e31ce078cee0eb2e25a6fe8cc4d1b39476476f97305e", func := "stockade/stockadelaw14.DnsmsgHeads", spec := "dnsmsgHeads", inPlace := ["internal/reflectlite.TypeOf", "internal/reflectlite.ValueOf", "(internal/reflectlite.Value).Type", "(internal/reflectlite.Value).IsNil", "(internal/reflectlite.Value).Elem", "(internal/reflectlite.Value).Set", "internal/abi.NoEscape", "internal/bytealg.MakeNoZero", "internal/bytealg.CountString", "internal/bytealg.IndexByteString", "internal/bytealg.IndexString"], unfollowed := true, recurses := true, named := ["errors.errorType", "unicode/utf8.first", "unicode/utf8.acceptRanges", "internal/bytealg.MaxLen"], apart := false, laid := [("unicode/utf8.acceptRanges", laid_unicode_utf8_acceptRanges), ("errors.errorType", laid_errors_errorType), ("unicode/utf8.first", laid_unicode_utf8_first)] }
def DnsmsgHeadsSaid : Prop := dnsmsgHeadsRow.holds Tryz.pinned (OpenSpec.ofChange dnsmsgHeadsSpec)

/-- ITS FALSE NEIGHBOUR: 'it returns false'. Refute it at one input. -/
def dnsmsgHeadsWrong : ChangeSpec := { name := "dnsmsgHeads", fn := fun _ => fun
  | [d1, d2] => { results := [.lit (.bool false)], args := [d1, d2] }
  | _ => none }
def DnsmsgHeadsWrongFalsely : Prop := dnsmsgHeadsRow.holds Tryz.pinned (OpenSpec.ofChange dnsmsgHeadsWrong)

/- THE SECOND FORM. 'bulk': how many values and letters a reading holds, each counted each time it is reached (what is shared counts as often as it is met; a slice's spare places count too). A statement '..UptoSaid' is the law's where the arguments, and the package variables that the reading takes, are together of bulk at most 1048576: NARROWER than '..Said'. Prove '..Said' where nothing that the law and all that it calls make is longer than what came in: it says more and counts as full. Else prove '..UptoSaid'. A law counts once. -/
mutual
def uptoBulk {H : Type} : DataW H → Nat
  | .lit (.string bytes) => bytes.length + 1
  | .lit _ => 1
  | .nil => 1
  | .ptr d => uptoBulk d + 1
  | .slice elems spare => uptoBulkAll elems + uptoBulkAll spare + 1
  | .agg parts => uptoBulkAll parts + 1
  | .iface _ d => uptoBulk d + 1
  | .map entries => uptoBulkEntries entries + 1
  | .held _ => 1
def uptoBulkAll {H : Type} : List (DataW H) → Nat
  | [] => 0
  | d :: r => uptoBulk d + uptoBulkAll r
def uptoBulkEntries {H : Type} : List (Lit × DataW H) → Nat
  | [] => 0
  | x :: r => uptoBulkEntry x + uptoBulkEntries r
def uptoBulkEntry {H : Type} : Lit × DataW H → Nat
  | (.string bytes, d) => bytes.length + uptoBulk d + 1
  | (_, d) => uptoBulk d + 1
 end
def uptoSmall : (H : Type) → List (DataW H) → Bool := fun _ ds => decide (uptoBulkAll ds ≤ 1048576)
def OpenSpec.upto (s : _root_.Go.ChangeSpec) : _root_.Go.OpenSpec := { _root_.Go.OpenSpec.ofChange s with cond := some uptoSmall }

/-- 'stockadelaw13.RecordTells', WHERE WHAT IT READS IS OF BULK AT MOST 1048576: true; the input reads as it did. -/
def recordTellsUptoRow : OpenClaim := { program := "ytlkneoednkhleaagreatdoor", sum := "959e46d3132d7e5040c0e31ce078cee0eb2e25a6fe8cc4d1b39476476f97305e", func := "stockade/stockadelaw13.RecordTells", spec := "recordTells", inPlace := ["internal/abi.NoEscape", "internal/bytealg.MakeNoZero", "internal/reflectlite.TypeOf", "internal/reflectlite.ValueOf", "(internal/reflectlite.Value).Type", "(internal/reflectlite.Value).IsNil", "(internal/reflectlite.Value).Elem", "(internal/reflectlite.Value).Set", "internal/bytealg.CountString", "internal/bytealg.IndexByteString", "internal/bytealg.IndexString"], unfollowed := true, recurses := true, named := ["errors.errorType", "unicode/utf8.first", "unicode/utf8.acceptRanges", "internal/bytealg.MaxLen"], apart := false, laid := [("unicode/utf8.acceptRanges", laid_unicode_utf8_acceptRanges), ("errors.errorType", laid_errors_errorType), ("unicode/utf8.first", laid_unicode_utf8_first)], narrowed := true }
def RecordTellsUptoSaid : Prop := recordTellsUptoRow.holds Tryz.pinned (OpenSpec.upto recordTellsSpec)

/-- 'stockadelaw14.DnsmsgTells', WHERE WHAT IT READS IS OF BULK AT MOST 1048576: true; the input reads as it did. -/
def dnsmsgTellsUptoRow : OpenClaim := { program := "ytlkneoednkhleaagreatdoor", sum := "959e46d3132d7e5040c0e31ce078cee0eb2e25a6fe8cc4d1b39476476f97305e", func := "stockade/stockadelaw14.DnsmsgTells", spec := "dnsmsgTells", inPlace := ["internal/bytealg.CountString", "internal/bytealg.IndexByteString", "internal/bytealg.IndexString", "internal/reflectlite.TypeOf", "internal/reflectlite.ValueOf", "(internal/reflectlite.Value).Type", "(internal/reflectlite.Value).IsNil", "(internal/reflectlite.Value).Elem", "(internal/reflectlite.Value).Set", "internal/abi.NoEscape", "internal/bytealg.MakeNoZero"], unfollowed := true, recurses := true, named := ["unicode/utf8.first", "unicode/utf8.acceptRanges", "internal/bytealg.MaxLen", "errors.errorType"], apart := false, laid := [("unicode/utf8.acceptRanges", laid_unicode_utf8_acceptRanges), ("errors.errorType", laid_errors_errorType), ("unicode/utf8.first", laid_unicode_utf8_first)], narrowed := true }
def DnsmsgTellsUptoSaid : Prop := dnsmsgTellsUptoRow.holds Tryz.pinned (OpenSpec.upto dnsmsgTellsSpec)

/-- 'stockadelaw14.DnsmsgBack', WHERE WHAT IT READS IS OF BULK AT MOST 1048576: true; the input reads as it did. -/
def dnsmsgBackUptoRow : OpenClaim := { program := "ytlkneoednkhleaagreatdoor", sum := "959e46d3132d7e5040c0e31ce078cee0eb2e25a6fe8cc4d1b39476476f97305e", func := "stockade/stockadelaw14.DnsmsgBack", spec := "dnsmsgBack", inPlace := ["internal/bytealg.CountString", "internal/bytealg.IndexByteString", "internal/bytealg.IndexString", "internal/reflectlite.TypeOf", "internal/reflectlite.ValueOf", "(internal/reflectlite.Value).Type", "(internal/reflectlite.Value).IsNil", "(internal/reflectlite.Value).Elem", "(internal/reflectlite.Value).Set", "internal/abi.NoEscape", "internal/bytealg.MakeNoZero"], unfollowed := true, recurses := true, named := ["unicode/utf8.first", "unicode/utf8.acceptRanges", "internal/bytealg.MaxLen", "errors.errorType"], apart := false, laid := [("unicode/utf8.acceptRanges", laid_unicode_utf8_acceptRanges), ("errors.errorType", laid_errors_errorType), ("unicode/utf8.first", laid_unicode_utf8_first)], narrowed := true }
def DnsmsgBackUptoSaid : Prop := dnsmsgBackUptoRow.holds Tryz.pinned (OpenSpec.upto dnsmsgBackSpec)

/-- 'stockadelaw14.DnsmsgEnds', WHERE WHAT IT READS IS OF BULK AT MOST 1048576: true; the input reads as it did. -/
def dnsmsgEndsUptoRow : OpenClaim := { program := "ytlkneoednkhleaagreatdoor", sum := "959e46d3132d7e5040c0e31ce078cee0eb2e25a6fe8cc4d1b39476476f97305e", func := "stockade/stockadelaw14.DnsmsgEnds", spec := "dnsmsgEnds", inPlace := ["internal/bytealg.CountString", "internal/bytealg.IndexByteString", "internal/bytealg.IndexString", "internal/reflectlite.TypeOf", "internal/reflectlite.ValueOf", "(internal/reflectlite.Value).Type", "(internal/reflectlite.Value).IsNil", "(internal/reflectlite.Value).Elem", "(internal/reflectlite.Value).Set", "internal/abi.NoEscape", "internal/bytealg.MakeNoZero"], unfollowed := true, recurses := true, named := ["unicode/utf8.first", "unicode/utf8.acceptRanges", "internal/bytealg.MaxLen", "errors.errorType"], apart := false, laid := [("unicode/utf8.acceptRanges", laid_unicode_utf8_acceptRanges), ("errors.errorType", laid_errors_errorType), ("unicode/utf8.first", laid_unicode_utf8_first)], narrowed := true }
def DnsmsgEndsUptoSaid : Prop := dnsmsgEndsUptoRow.holds Tryz.pinned (OpenSpec.upto dnsmsgEndsSpec)

/-- 'stockadelaw14.DnsmsgCompressed', WHERE WHAT IT READS IS OF BULK AT MOST 1048576: true; the input reads as it did. -/
def dnsmsgCompressedUptoRow : OpenClaim := { program := "ytlkneoednkhleaagreatdoor", sum := "959e46d3132d7e5040c0e31ce078cee0eb2e25a6fe8cc4d1b39476476f97305e", func := "stockade/stockadelaw14.DnsmsgCompressed", spec := "dnsmsgCompressed", inPlace := ["internal/reflectlite.TypeOf", "internal/reflectlite.ValueOf", "(internal/reflectlite.Value).Type", "(internal/reflectlite.Value).IsNil", "(internal/reflectlite.Value).Elem", "(internal/reflectlite.Value).Set", "internal/abi.NoEscape", "internal/bytealg.MakeNoZero", "internal/bytealg.CountString", "internal/bytealg.IndexByteString", "internal/bytealg.IndexString"], unfollowed := true, recurses := true, named := ["errors.errorType", "unicode/utf8.first", "unicode/utf8.acceptRanges", "internal/bytealg.MaxLen"], apart := false, laid := [("unicode/utf8.acceptRanges", laid_unicode_utf8_acceptRanges), ("errors.errorType", laid_errors_errorType), ("unicode/utf8.first", laid_unicode_utf8_first)], narrowed := true }
def DnsmsgCompressedUptoSaid : Prop := dnsmsgCompressedUptoRow.holds Tryz.pinned (OpenSpec.upto dnsmsgCompressedSpec)

/-- 'stockadelaw14.DnsmsgRefuses', WHERE WHAT IT READS IS OF BULK AT MOST 1048576: true; the input reads as it did. -/
def dnsmsgRefusesUptoRow : OpenClaim := { program := "ytlkneoednkhleaagreatdoor", sum := "959e46d3132d7e5040c0e31ce078cee0eb2e25a6fe8cc4d1b39476476f97305e", func := "stockade/stockadelaw14.DnsmsgRefuses", spec := "dnsmsgRefuses", inPlace := ["internal/bytealg.CountString", "internal/bytealg.IndexByteString", "internal/bytealg.IndexString", "internal/reflectlite.TypeOf", "internal/reflectlite.ValueOf", "(internal/reflectlite.Value).Type", "(internal/reflectlite.Value).IsNil", "(internal/reflectlite.Value).Elem", "(internal/reflectlite.Value).Set", "internal/abi.NoEscape", "internal/bytealg.MakeNoZero"], unfollowed := true, recurses := true, named := ["unicode/utf8.first", "unicode/utf8.acceptRanges", "internal/bytealg.MaxLen", "errors.errorType"], apart := false, laid := [("unicode/utf8.acceptRanges", laid_unicode_utf8_acceptRanges), ("errors.errorType", laid_errors_errorType), ("unicode/utf8.first", laid_unicode_utf8_first)], narrowed := true }
def DnsmsgRefusesUptoSaid : Prop := dnsmsgRefusesUptoRow.holds Tryz.pinned (OpenSpec.upto dnsmsgRefusesSpec)

/-- 'stockadelaw14.DnsmsgHeads', WHERE WHAT IT READS IS OF BULK AT MOST 1048576: true; the input reads as it did. -/
def dnsmsgHeadsUptoRow : OpenClaim := { program := "ytlkneoednkhleaagreatdoor", sum := "959e46d3132d7e5040c0e31ce078cee0eb2e25a6fe8cc4d1b39476476f97305e", func := "stockade/stockadelaw14.DnsmsgHeads", spec := "dnsmsgHeads", inPlace := ["internal/reflectlite.TypeOf", "internal/reflectlite.ValueOf", "(internal/reflectlite.Value).Type", "(internal/reflectlite.Value).IsNil", "(internal/reflectlite.Value).Elem", "(internal/reflectlite.Value).Set", "internal/abi.NoEscape", "internal/bytealg.MakeNoZero", "internal/bytealg.CountString", "internal/bytealg.IndexByteString", "internal/bytealg.IndexString"], unfollowed := true, recurses := true, named := ["errors.errorType", "unicode/utf8.first", "unicode/utf8.acceptRanges", "internal/bytealg.MaxLen"], apart := false, laid := [("unicode/utf8.acceptRanges", laid_unicode_utf8_acceptRanges), ("errors.errorType", laid_errors_errorType), ("unicode/utf8.first", laid_unicode_utf8_first)], narrowed := true }
def DnsmsgHeadsUptoSaid : Prop := dnsmsgHeadsUptoRow.holds Tryz.pinned (OpenSpec.upto dnsmsgHeadsSpec)

end Rows
end Go.Proofs.YtlkneoednkhleaaGreatDoor
