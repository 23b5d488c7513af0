/-
  NARROWER THAN 'FOR EVERY INPUT', by the rows' own cells (each row's printed sentence says how): PrinterExprs: loops, laid · PrinterPrints: loops, laid · SheetExprs: laid · SheetWritten: loops, laid · SheetNames: laid · SheetWords: loops, laid · SheetBuilt: laid · SheetSums: laid · SheetTokens: laid.
  DERIVED. THE GIVEN ROWS OF THIS SEAT. 9 by the template 'for every input the law returns true; each argument reads behind the call as it read before'; 0 by the template 'total and deterministic' (their statements: YtkobkpepgdddeaaGreatDoorTotals.lean).
  GIVEN WITH THE SEED: the statements are not yours to turn. If you find one false, say at which input.
  Laid BY PROGRAM, IN A SANDBOX (cutbox-rows.mjs): the forced cells as the released guide's own fill.sh prints them over the translation 79d2e4c5bdb78849… (all of the seat's roots in one cut). By AI agents, Wed Nov 11 2026. No macro, syntax, notation, axiom, sorry.
-/
import Derived.Test.YtkobkpepgdddeaaGreatDoorChecked
import GoSem.PinnedTables
import GoSem.Claim
import GoSem.ClaimJoined
import GoSem.ClaimMapViews
import Derived.JoinedTies
import Derived.KernelRfl
namespace Go.Proofs.YtkobkpepgdddeaaGreatDoor
/- THE CELL 'sum', in the pinned program and in every row, IS THE sha256 OF THE DUMP (.gsa) THAT YtkobkpepgdddeaaGreatDoorProg.lean LOADS. Nothing in Lean hashes anything: it is a label: what it is worth is what the hold of that sum in a sandbox is worth. -/
noncomputable def Tryz.pinned : Pinned := { name := "ytkobkpepgdddeaagreatdoor", sum := "79d2e4c5bdb7884989d8b00c59323688283f099b13df9df910f70a2985723e6a", checked := Tryz.checked }
namespace Rows
def none {H : Type} : Left H := { results := [], args := [] }

/- WHAT THE LISTED PACKAGE-LEVEL VARIABLES READ AS WHEN THE CALL BEGINS. Each datum BY PROGRAM (the guide's laid-datum.mjs) off the statement by which the dump's own 'gosem.cut.vars' lays the variable. In a bare row this is a premise. The card (YtkobkpepgdddeaaGreatDoorCards.lean) ties it to the program's text. -/
def laid_novation_observable_shapes {H : Type} : DataW H := .map [(.int .u8 4, .agg [.slice [.lit (.int .u8 1), .lit (.int .u8 1)] [], .lit (.int .u8 1)]), (.int .u8 5, .agg [.slice [.lit (.int .u8 1), .lit (.int .u8 1)] [], .lit (.int .u8 1)]), (.int .u8 6, .agg [.slice [.lit (.int .u8 1), .lit (.int .u8 1)] [], .lit (.int .u8 1)]), (.int .u8 7, .agg [.slice [.lit (.int .u8 1), .lit (.int .u8 1)] [], .lit (.int .u8 1)]), (.int .u8 8, .agg [.slice [.lit (.int .u8 1), .lit (.int .u8 1)] [], .lit (.int .u8 1)]), (.int .u8 9, .agg [.slice [.lit (.int .u8 2), .lit (.int .u8 1), .lit (.int .u8 1)] [], .lit (.int .u8 1)]), (.int .u8 11, .agg [.slice [.lit (.int .u8 1), .lit (.int .u8 1)] [], .lit (.int .u8 2)]), (.int .u8 12, .agg [.slice [.lit (.int .u8 1), .lit (.int .u8 1)] [], .lit (.int .u8 2)]), (.int .u8 13, .agg [.slice [.lit (.int .u8 2), .lit (.int .u8 2)] [], .lit (.int .u8 2)]), (.int .u8 14, .agg [.slice [.lit (.int .u8 2), .lit (.int .u8 2)] [], .lit (.int .u8 2)]), (.int .u8 15, .agg [.slice [.lit (.int .u8 2)] [], .lit (.int .u8 2)])]
def laid_novation_contract_parts {H : Type} : DataW H := .map [(.int .u8 1, .lit (.int .i64 0)), (.int .u8 2, .lit (.int .i64 15)), (.int .u8 3, .lit (.int .i64 256)), (.int .u8 4, .lit (.int .i64 136)), (.int .u8 5, .lit (.int .i64 272)), (.int .u8 6, .lit (.int .i64 160)), (.int .u8 7, .lit (.int .i64 261)), (.int .u8 8, .lit (.int .i64 197)), (.int .u8 9, .lit (.int .i64 208)), (.int .u8 10, .lit (.int .i64 208))]
def laid_unicode_utf8_acceptRanges {H : Type} : DataW H := .agg [.agg [.lit (.int .u8 128), .lit (.int .u8 191)], .agg [.lit (.int .u8 160), .lit (.int .u8 191)], .agg [.lit (.int .u8 128), .lit (.int .u8 159)], .agg [.lit (.int .u8 144), .lit (.int .u8 191)], .agg [.lit (.int .u8 128), .lit (.int .u8 143)], .agg [.lit (.int .u8 0), .lit (.int .u8 0)], .agg [.lit (.int .u8 0), .lit (.int .u8 0)], .agg [.lit (.int .u8 0), .lit (.int .u8 0)], .agg [.lit (.int .u8 0), .lit (.int .u8 0)], .agg [.lit (.int .u8 0), .lit (.int .u8 0)], .agg [.lit (.int .u8 0), .lit (.int .u8 0)], .agg [.lit (.int .u8 0), .lit (.int .u8 0)], .agg [.lit (.int .u8 0), .lit (.int .u8 0)], .agg [.lit (.int .u8 0), .lit (.int .u8 0)], .agg [.lit (.int .u8 0), .lit (.int .u8 0)], .agg [.lit (.int .u8 0), .lit (.int .u8 0)]]
/-- One of Go's own tables, pinned by name: the form's constant. -/
def laid_unicode_utf8_first : DataW Unit := Go.Pinned.utf8First

/-- 'novationlaw14.PrinterExprs': WHATEVER THE INPUT: true; the input reads as it did. -/
def printerExprsSpec : ChangeSpec := { name := "printerExprs", fn := fun _ => fun
  | [d1, d2] => { results := [.lit (.bool true)], args := [d1, d2] }
  | _ => none }
def printerExprsRow : OpenClaim := { program := "ytkobkpepgdddeaagreatdoor", sum := "79d2e4c5bdb7884989d8b00c59323688283f099b13df9df910f70a2985723e6a", func := "novation/novationlaw14.PrinterExprs", spec := "printerExprs", inPlace := ["internal/bytealg.IndexByteString", "internal/bytealg.IndexString", "internal/abi.NoEscape"], unfollowed := true, recurses := true, named := ["novation/observable.shapes", "internal/bytealg.MaxLen"], loops := true, apart := false, laid := [("novation/observable.shapes", laid_novation_observable_shapes)] }
def PrinterExprsSaid : Prop := printerExprsRow.holds Tryz.pinned (OpenSpec.ofChange printerExprsSpec)

/-- ITS FALSE NEIGHBOUR: 'it returns false'. Refute it at one input. -/
def printerExprsWrong : ChangeSpec := { name := "printerExprs", fn := fun _ => fun
  | [d1, d2] => { results := [.lit (.bool false)], args := [d1, d2] }
  | _ => none }
def PrinterExprsWrongFalsely : Prop := printerExprsRow.holds Tryz.pinned (OpenSpec.ofChange printerExprsWrong)

/-- 'novationlaw14.PrinterPrints': WHATEVER THE INPUT: true; the input reads as it did. -/
def printerPrintsSpec : ChangeSpec := { name := "printerPrints", fn := fun _ => fun
  | [d] => { results := [.lit (.bool true)], args := [d] }
  | _ => none }
def printerPrintsRow : OpenClaim := { program := "ytkobkpepgdddeaagreatdoor", sum := "79d2e4c5bdb7884989d8b00c59323688283f099b13df9df910f70a2985723e6a", func := "novation/novationlaw14.PrinterPrints", spec := "printerPrints", inPlace := ["internal/bytealg.IndexByteString", "internal/bytealg.IndexString", "internal/abi.NoEscape", "internal/bytealg.MakeNoZero"], unfollowed := true, recurses := true, named := ["novation/contract.parts", "novation/observable.shapes", "internal/bytealg.MaxLen"], loops := true, apart := false, laid := [("novation/observable.shapes", laid_novation_observable_shapes), ("novation/contract.parts", laid_novation_contract_parts)] }
def PrinterPrintsSaid : Prop := printerPrintsRow.holds Tryz.pinned (OpenSpec.ofChange printerPrintsSpec)

/-- ITS FALSE NEIGHBOUR: 'it returns false'. Refute it at one input. -/
def printerPrintsWrong : ChangeSpec := { name := "printerPrints", fn := fun _ => fun
  | [d] => { results := [.lit (.bool false)], args := [d] }
  | _ => none }
def PrinterPrintsWrongFalsely : Prop := printerPrintsRow.holds Tryz.pinned (OpenSpec.ofChange printerPrintsWrong)

/-- 'novationlaw13.SheetExprs': WHATEVER THE INPUT: true; the input reads as it did. -/
def sheetExprsSpec : ChangeSpec := { name := "sheetExprs", fn := fun _ => fun
  | [d] => { results := [.lit (.bool true)], args := [d] }
  | _ => none }
def sheetExprsRow : OpenClaim := { program := "ytkobkpepgdddeaagreatdoor", sum := "79d2e4c5bdb7884989d8b00c59323688283f099b13df9df910f70a2985723e6a", func := "novation/novationlaw13.SheetExprs", spec := "sheetExprs", inPlace := ["internal/bytealg.IndexByteString", "internal/abi.NoEscape", "internal/bytealg.MakeNoZero", "internal/bytealg.IndexString"], unfollowed := true, recurses := true, named := ["unicode/utf8.first", "unicode/utf8.acceptRanges", "novation/observable.shapes", "internal/bytealg.MaxLen"], apart := false, laid := [("unicode/utf8.acceptRanges", laid_unicode_utf8_acceptRanges), ("novation/observable.shapes", laid_novation_observable_shapes), ("unicode/utf8.first", laid_unicode_utf8_first)] }
def SheetExprsSaid : Prop := sheetExprsRow.holds Tryz.pinned (OpenSpec.ofChange sheetExprsSpec)

/-- ITS FALSE NEIGHBOUR: 'it returns false'. Refute it at one input. -/
def sheetExprsWrong : ChangeSpec := { name := "sheetExprs", fn := fun _ => fun
  | [d] => { results := [.lit (.bool false)], args := [d] }
  | _ => none }
def SheetExprsWrongFalsely : Prop := sheetExprsRow.holds Tryz.pinned (OpenSpec.ofChange sheetExprsWrong)

/-- 'novationlaw13.SheetWritten': WHATEVER THE INPUT: true; the input reads as it did. -/
def sheetWrittenSpec : ChangeSpec := { name := "sheetWritten", fn := fun _ => fun
  | [d] => { results := [.lit (.bool true)], args := [d] }
  | _ => none }
def sheetWrittenRow : OpenClaim := { program := "ytkobkpepgdddeaagreatdoor", sum := "79d2e4c5bdb7884989d8b00c59323688283f099b13df9df910f70a2985723e6a", func := "novation/novationlaw13.SheetWritten", spec := "sheetWritten", inPlace := ["internal/bytealg.IndexByteString", "internal/abi.NoEscape", "internal/bytealg.MakeNoZero", "internal/bytealg.IndexString"], unfollowed := true, recurses := true, named := ["unicode/utf8.first", "unicode/utf8.acceptRanges", "novation/contract.parts", "novation/observable.shapes", "internal/bytealg.MaxLen"], loops := true, apart := false, laid := [("unicode/utf8.acceptRanges", laid_unicode_utf8_acceptRanges), ("novation/observable.shapes", laid_novation_observable_shapes), ("novation/contract.parts", laid_novation_contract_parts), ("unicode/utf8.first", laid_unicode_utf8_first)] }
def SheetWrittenSaid : Prop := sheetWrittenRow.holds Tryz.pinned (OpenSpec.ofChange sheetWrittenSpec)

/-- ITS FALSE NEIGHBOUR: 'it returns false'. Refute it at one input. -/
def sheetWrittenWrong : ChangeSpec := { name := "sheetWritten", fn := fun _ => fun
  | [d] => { results := [.lit (.bool false)], args := [d] }
  | _ => none }
def SheetWrittenWrongFalsely : Prop := sheetWrittenRow.holds Tryz.pinned (OpenSpec.ofChange sheetWrittenWrong)

/-- 'novationlaw13.SheetNames': WHATEVER THE INPUT: true; the input reads as it did. -/
def sheetNamesSpec : ChangeSpec := { name := "sheetNames", fn := fun _ => fun
  | [] => { results := [.lit (.bool true)], args := [] }
  | _ => none }
def sheetNamesRow : OpenClaim := { program := "ytkobkpepgdddeaagreatdoor", sum := "79d2e4c5bdb7884989d8b00c59323688283f099b13df9df910f70a2985723e6a", func := "novation/novationlaw13.SheetNames", spec := "sheetNames", inPlace := ["internal/bytealg.IndexByteString", "internal/abi.NoEscape", "internal/bytealg.MakeNoZero", "internal/bytealg.IndexString"], unfollowed := true, recurses := true, named := ["unicode/utf8.first", "unicode/utf8.acceptRanges", "novation/observable.shapes", "internal/bytealg.MaxLen", "novation/contract.parts"], apart := false, laid := [("unicode/utf8.acceptRanges", laid_unicode_utf8_acceptRanges), ("novation/observable.shapes", laid_novation_observable_shapes), ("novation/contract.parts", laid_novation_contract_parts), ("unicode/utf8.first", laid_unicode_utf8_first)] }
def SheetNamesSaid : Prop := sheetNamesRow.holds Tryz.pinned (OpenSpec.ofChange sheetNamesSpec)

/-- ITS FALSE NEIGHBOUR: 'it returns false'. Refute it at one input. -/
def sheetNamesWrong : ChangeSpec := { name := "sheetNames", fn := fun _ => fun
  | [] => { results := [.lit (.bool false)], args := [] }
  | _ => none }
def SheetNamesWrongFalsely : Prop := sheetNamesRow.holds Tryz.pinned (OpenSpec.ofChange sheetNamesWrong)

/-- 'novationlaw13.SheetWords': WHATEVER THE INPUT: true; the input reads as it did. -/
def sheetWordsSpec : ChangeSpec := { name := "sheetWords", fn := fun _ => fun
  | [d] => { results := [.lit (.bool true)], args := [d] }
  | _ => none }
def sheetWordsRow : OpenClaim := { program := "ytkobkpepgdddeaagreatdoor", sum := "79d2e4c5bdb7884989d8b00c59323688283f099b13df9df910f70a2985723e6a", func := "novation/novationlaw13.SheetWords", spec := "sheetWords", inPlace := ["internal/bytealg.IndexByteString", "internal/abi.NoEscape", "internal/bytealg.MakeNoZero", "internal/bytealg.IndexString"], unfollowed := true, recurses := true, named := ["unicode/utf8.first", "unicode/utf8.acceptRanges", "novation/contract.parts", "novation/observable.shapes", "internal/bytealg.MaxLen"], loops := true, apart := false, laid := [("unicode/utf8.acceptRanges", laid_unicode_utf8_acceptRanges), ("novation/observable.shapes", laid_novation_observable_shapes), ("novation/contract.parts", laid_novation_contract_parts), ("unicode/utf8.first", laid_unicode_utf8_first)] }
def SheetWordsSaid : Prop := sheetWordsRow.holds Tryz.pinned (OpenSpec.ofChange sheetWordsSpec)

/-- ITS FALSE NEIGHBOUR: 'it returns false'. Refute it at one input. -/
def sheetWordsWrong : ChangeSpec := { name := "sheetWords", fn := fun _ => fun
  | [d] => { results := [.lit (.bool false)], args := [d] }
  | _ => none }
def SheetWordsWrongFalsely : Prop := sheetWordsRow.holds Tryz.pinned (OpenSpec.ofChange sheetWordsWrong)

/-- 'novationlaw13.SheetBuilt': WHATEVER THE INPUT: true; the input reads as it did. -/
def sheetBuiltSpec : ChangeSpec := { name := "sheetBuilt", fn := fun _ => fun
  | [d1, d2, d3, d4] => { results := [.lit (.bool true)], args := [d1, d2, d3, d4] }
  | _ => none }
def sheetBuiltRow : OpenClaim := { program := "ytkobkpepgdddeaagreatdoor", sum := "79d2e4c5bdb7884989d8b00c59323688283f099b13df9df910f70a2985723e6a", func := "novation/novationlaw13.SheetBuilt", spec := "sheetBuilt", inPlace := ["internal/bytealg.IndexByteString", "internal/abi.NoEscape", "internal/bytealg.MakeNoZero", "internal/bytealg.IndexString"], unfollowed := true, recurses := true, named := ["unicode/utf8.first", "unicode/utf8.acceptRanges", "novation/contract.parts", "novation/observable.shapes", "internal/bytealg.MaxLen"], apart := false, laid := [("unicode/utf8.acceptRanges", laid_unicode_utf8_acceptRanges), ("novation/observable.shapes", laid_novation_observable_shapes), ("novation/contract.parts", laid_novation_contract_parts), ("unicode/utf8.first", laid_unicode_utf8_first)] }
def SheetBuiltSaid : Prop := sheetBuiltRow.holds Tryz.pinned (OpenSpec.ofChange sheetBuiltSpec)

/-- ITS FALSE NEIGHBOUR: 'it returns false'. Refute it at one input. -/
def sheetBuiltWrong : ChangeSpec := { name := "sheetBuilt", fn := fun _ => fun
  | [d1, d2, d3, d4] => { results := [.lit (.bool false)], args := [d1, d2, d3, d4] }
  | _ => none }
def SheetBuiltWrongFalsely : Prop := sheetBuiltRow.holds Tryz.pinned (OpenSpec.ofChange sheetBuiltWrong)

/-- 'novationlaw13.SheetSums': WHATEVER THE INPUT: true; the input reads as it did. -/
def sheetSumsSpec : ChangeSpec := { name := "sheetSums", fn := fun _ => fun
  | [d1, d2, d3] => { results := [.lit (.bool true)], args := [d1, d2, d3] }
  | _ => none }
def sheetSumsRow : OpenClaim := { program := "ytkobkpepgdddeaagreatdoor", sum := "79d2e4c5bdb7884989d8b00c59323688283f099b13df9df910f70a2985723e6a", func := "novation/novationlaw13.SheetSums", spec := "sheetSums", inPlace := ["internal/bytealg.IndexByteString", "internal/abi.NoEscape", "internal/bytealg.MakeNoZero", "internal/bytealg.IndexString"], unfollowed := true, recurses := true, named := ["unicode/utf8.first", "unicode/utf8.acceptRanges", "novation/contract.parts", "novation/observable.shapes", "internal/bytealg.MaxLen"], apart := false, laid := [("unicode/utf8.acceptRanges", laid_unicode_utf8_acceptRanges), ("novation/observable.shapes", laid_novation_observable_shapes), ("novation/contract.parts", laid_novation_contract_parts), ("unicode/utf8.first", laid_unicode_utf8_first)] }
def SheetSumsSaid : Prop := sheetSumsRow.holds Tryz.pinned (OpenSpec.ofChange sheetSumsSpec)

/-- ITS FALSE NEIGHBOUR: 'it returns false'. Refute it at one input. -/
def sheetSumsWrong : ChangeSpec := { name := "sheetSums", fn := fun _ => fun
  | [d1, d2, d3] => { results := [.lit (.bool false)], args := [d1, d2, d3] }
  | _ => none }
def SheetSumsWrongFalsely : Prop := sheetSumsRow.holds Tryz.pinned (OpenSpec.ofChange sheetSumsWrong)

/-- 'novationlaw13.SheetTokens': WHATEVER THE INPUT: true; the input reads as it did. -/
def sheetTokensSpec : ChangeSpec := { name := "sheetTokens", fn := fun _ => fun
  | [d] => { results := [.lit (.bool true)], args := [d] }
  | _ => none }
def sheetTokensRow : OpenClaim := { program := "ytkobkpepgdddeaagreatdoor", sum := "79d2e4c5bdb7884989d8b00c59323688283f099b13df9df910f70a2985723e6a", func := "novation/novationlaw13.SheetTokens", spec := "sheetTokens", inPlace := ["internal/bytealg.IndexByteString", "internal/abi.NoEscape", "internal/bytealg.MakeNoZero", "internal/bytealg.IndexString"], unfollowed := true, recurses := true, named := ["unicode/utf8.first", "unicode/utf8.acceptRanges", "novation/contract.parts", "novation/observable.shapes", "internal/bytealg.MaxLen"], apart := false, laid := [("unicode/utf8.acceptRanges", laid_unicode_utf8_acceptRanges), ("novation/observable.shapes", laid_novation_observable_shapes), ("novation/contract.parts", laid_novation_contract_parts), ("unicode/utf8.first", laid_unicode_utf8_first)] }
def SheetTokensSaid : Prop := sheetTokensRow.holds Tryz.pinned (OpenSpec.ofChange sheetTokensSpec)

/-- ITS FALSE NEIGHBOUR: 'it returns false'. Refute it at one input. -/
def sheetTokensWrong : ChangeSpec := { name := "sheetTokens", fn := fun _ => fun
  | [d] => { results := [.lit (.bool false)], args := [d] }
  | _ => none }
def SheetTokensWrongFalsely : Prop := sheetTokensRow.holds Tryz.pinned (OpenSpec.ofChange sheetTokensWrong)

/- THE SECOND FORM. 'bulk': how many values and letters a reading holds, each counted each time it is reached (what is shared counts as often as it is met; a slice's spare places count too). A statement '..UptoSaid' is the law's where the arguments, and the package variables that the reading takes, are together of bulk at most 1048576: NARROWER than '..Said'. Prove '..Said' where nothing that the law and all that it calls make is longer than what came in: it says more and counts as full. Else prove '..UptoSaid'. A law counts once. -/
mutual
def uptoBulk {H : Type} : DataW H → Nat
  | .lit (.string bytes) => bytes.length + 1
  | .lit _ => 1
  | .nil => 1
  | .ptr d => uptoBulk d + 1
  | .slice elems spare => uptoBulkAll elems + uptoBulkAll spare + 1
  | .agg parts => uptoBulkAll parts + 1
  | .iface _ d => uptoBulk d + 1
  | .map entries => uptoBulkEntries entries + 1
  | .held _ => 1
def uptoBulkAll {H : Type} : List (DataW H) → Nat
  | [] => 0
  | d :: r => uptoBulk d + uptoBulkAll r
def uptoBulkEntries {H : Type} : List (Lit × DataW H) → Nat
  | [] => 0
  | x :: r => uptoBulkEntry x + uptoBulkEntries r
def uptoBulkEntry {H : Type} : Lit × DataW H → Nat
  | (.string bytes, d) => bytes.length + uptoBulk d + 1
  | (_, d) => uptoBulk d + 1
 end
def uptoSmall : (H : Type) → List (DataW H) → Bool := fun _ ds => decide (uptoBulkAll ds ≤ 1048576)
def OpenSpec.upto (s : _root_.Go.ChangeSpec) : _root_.Go.OpenSpec := { _root_.Go.OpenSpec.ofChange s with cond := some uptoSmall }

/-- 'novationlaw14.PrinterExprs', WHERE WHAT IT READS IS OF BULK AT MOST 1048576: true; the input reads as it did. -/
def printerExprsUptoRow : OpenClaim := { program := "ytkobkpepgdddeaagreatdoor", sum := "79d2e4c5bdb7884989d8b00c59323688283f099b13df9df910f70a2985723e6a", func := "novation/novationlaw14.PrinterExprs", spec := "printerExprs", inPlace := ["internal/bytealg.IndexByteString", "internal/bytealg.IndexString", "internal/abi.NoEscape"], unfollowed := true, recurses := true, named := ["novation/observable.shapes", "internal/bytealg.MaxLen"], loops := true, apart := false, laid := [("novation/observable.shapes", laid_novation_observable_shapes)], narrowed := true }
def PrinterExprsUptoSaid : Prop := printerExprsUptoRow.holds Tryz.pinned (OpenSpec.upto printerExprsSpec)

/-- 'novationlaw14.PrinterPrints', WHERE WHAT IT READS IS OF BULK AT MOST 1048576: true; the input reads as it did. -/
def printerPrintsUptoRow : OpenClaim := { program := "ytkobkpepgdddeaagreatdoor", sum := "79d2e4c5bdb7884989d8b00c59323688283f099b13df9df910f70a2985723e6a", func := "novation/novationlaw14.PrinterPrints", spec := "printerPrints", inPlace := ["internal/bytealg.IndexByteString", "internal/bytealg.IndexString", "internal/abi.NoEscape", "internal/bytealg.MakeNoZero"], unfollowed := true, recurses := true, named := ["novation/contract.parts", "novation/observable.shapes", "internal/bytealg.MaxLen"], loops := true, apart := false, laid := [("novation/observable.shapes", laid_novation_observable_shapes), ("novation/contract.parts", laid_novation_contract_parts)], narrowed := true }
def PrinterPrintsUptoSaid : Prop := printerPrintsUptoRow.holds Tryz.pinned (OpenSpec.upto printerPrintsSpec)

/-- 'novationlaw13.SheetExprs', WHERE WHAT IT READS IS OF BULK AT MOST 1048576: true; the input reads as it did. -/
def sheetExprsUptoRow : OpenClaim := { program := "ytkobkpepgdddeaagreatdoor", sum := "79d2e4c5bdb7884989d8b00c59323688283f099b13df9df910f70a2985723e6a", func := "novation/novationlaw13.SheetExprs", spec := "sheetExprs", inPlace := ["internal/bytealg.IndexByteString", "internal/abi.NoEscape", "internal/bytealg.MakeNoZero", "internal/bytealg.IndexString"], unfollowed := true, recurses := true, named := ["unicode/utf8.first", "unicode/utf8.acceptRanges", "novation/observable.shapes", "internal/bytealg.MaxLen"], apart := false, laid := [("unicode/utf8.acceptRanges", laid_unicode_utf8_acceptRanges), ("novation/observable.shapes", laid_novation_observable_shapes), ("unicode/utf8.first", laid_unicode_utf8_first)], narrowed := true }
def SheetExprsUptoSaid : Prop := sheetExprsUptoRow.holds Tryz.pinned (OpenSpec.upto sheetExprsSpec)

/-- 'novationlaw13.SheetWritten', WHERE WHAT IT READS IS OF BULK AT MOST 1048576: true; the input reads as it did. -/
def sheetWrittenUptoRow : OpenClaim := { program := "ytkobkpepgdddeaagreatdoor", sum := "79d2e4c5bdb7884989d8b00c59323688283f099b13df9df910f70a2985723e6a", func := "novation/novationlaw13.SheetWritten", spec := "sheetWritten", inPlace := ["internal/bytealg.IndexByteString", "internal/abi.NoEscape", "internal/bytealg.MakeNoZero", "internal/bytealg.IndexString"], unfollowed := true, recurses := true, named := ["unicode/utf8.first", "unicode/utf8.acceptRanges", "novation/contract.parts", "novation/observable.shapes", "internal/bytealg.MaxLen"], loops := true, apart := false, laid := [("unicode/utf8.acceptRanges", laid_unicode_utf8_acceptRanges), ("novation/observable.shapes", laid_novation_observable_shapes), ("novation/contract.parts", laid_novation_contract_parts), ("unicode/utf8.first", laid_unicode_utf8_first)], narrowed := true }
def SheetWrittenUptoSaid : Prop := sheetWrittenUptoRow.holds Tryz.pinned (OpenSpec.upto sheetWrittenSpec)

/-- 'novationlaw13.SheetNames', WHERE WHAT IT READS IS OF BULK AT MOST 1048576: true; the input reads as it did. -/
def sheetNamesUptoRow : OpenClaim := { program := "ytkobkpepgdddeaagreatdoor", sum := "79d2e4c5bdb7884989d8b00c59323688283f099b13df9df910f70a2985723e6a", func := "novation/novationlaw13.SheetNames", spec := "sheetNames", inPlace := ["internal/bytealg.IndexByteString", "internal/abi.NoEscape", "internal/bytealg.MakeNoZero", "internal/bytealg.IndexString"], unfollowed := true, recurses := true, named := ["unicode/utf8.first", "unicode/utf8.acceptRanges", "novation/observable.shapes", "internal/bytealg.MaxLen", "novation/contract.parts"], apart := false, laid := [("unicode/utf8.acceptRanges", laid_unicode_utf8_acceptRanges), ("novation/observable.shapes", laid_novation_observable_shapes), ("novation/contract.parts", laid_novation_contract_parts), ("unicode/utf8.first", laid_unicode_utf8_first)], narrowed := true }
def SheetNamesUptoSaid : Prop := sheetNamesUptoRow.holds Tryz.pinned (OpenSpec.upto sheetNamesSpec)

/-- 'novationlaw13.SheetWords', WHERE WHAT IT READS IS OF BULK AT MOST 1048576: true; the input reads as it did. -/
def sheetWordsUptoRow : OpenClaim := { program := "ytkobkpepgdddeaagreatdoor", sum := "79d2e4c5bdb7884989d8b00c59323688283f099b13df9df910f70a2985723e6a", func := "novation/novationlaw13.SheetWords", spec := "sheetWords", inPlace := ["internal/bytealg.IndexByteString", "internal/abi.NoEscape", "internal/bytealg.MakeNoZero", "internal/bytealg.IndexString"], unfollowed := true, recurses := true, named := ["unicode/utf8.first", "unicode/utf8.acceptRanges", "novation/contract.parts", "novation/observable.shapes", "internal/bytealg.MaxLen"], loops := true, apart := false, laid := [("unicode/utf8.acceptRanges", laid_unicode_utf8_acceptRanges), ("novation/observable.shapes", laid_novation_observable_shapes), ("novation/contract.parts", laid_novation_contract_parts), ("unicode/utf8.first", laid_unicode_utf8_first)], narrowed := true }
def SheetWordsUptoSaid : Prop := sheetWordsUptoRow.holds Tryz.pinned (OpenSpec.upto sheetWordsSpec)

/-- 'novationlaw13.SheetBuilt', WHERE WHAT IT READS IS OF BULK AT MOST 1048576: true; the input reads as it did. -/
def sheetBuiltUptoRow : OpenClaim := { program := "ytkobkpepgdddeaagreatdoor", sum := "79d2e4c5bdb7884989d8b00c59323688283f099b13df9df910f70a2985723e6a", func := "novation/novationlaw13.SheetBuilt", spec := "sheetBuilt", inPlace := ["internal/bytealg.IndexByteString", "internal/abi.NoEscape", "internal/bytealg.MakeNoZero", "internal/bytealg.IndexString"], unfollowed := true, recurses := true, named := ["unicode/utf8.first", "unicode/utf8.acceptRanges", "novation/contract.parts", "novation/observable.shapes", "internal/bytealg.MaxLen"], apart := false, laid := [("unicode/utf8.acceptRanges", laid_unicode_utf8_acceptRanges), ("novation/observable.shapes", laid_novation_observable_shapes), ("novation/contract.parts", laid_novation_contract_parts), ("unicode/utf8.first", laid_unicode_utf8_first)], narrowed := true }
def SheetBuiltUptoSaid : Prop := sheetBuiltUptoRow.holds Tryz.pinned (OpenSpec.upto sheetBuiltSpec)

/-- 'novationlaw13.SheetSums', WHERE WHAT IT READS IS OF BULK AT MOST 1048576: true; the input reads as it did. -/
def sheetSumsUptoRow : OpenClaim := { program := "ytkobkpepgdddeaagreatdoor", sum := "79d2e4c5bdb7884989d8b00c59323688283f099b13df9df910f70a2985723e6a", func := "novation/novationlaw13.SheetSums", spec := "sheetSums", inPlace := ["internal/bytealg.IndexByteString", "internal/abi.NoEscape", "internal/bytealg.MakeNoZero", "internal/bytealg.IndexString"], unfollowed := true, recurses := true, named := ["unicode/utf8.first", "unicode/utf8.acceptRanges", "novation/contract.parts", "novation/observable.shapes", "internal/bytealg.MaxLen"], apart := false, laid := [("unicode/utf8.acceptRanges", laid_unicode_utf8_acceptRanges), ("novation/observable.shapes", laid_novation_observable_shapes), ("novation/contract.parts", laid_novation_contract_parts), ("unicode/utf8.first", laid_unicode_utf8_first)], narrowed := true }
def SheetSumsUptoSaid : Prop := sheetSumsUptoRow.holds Tryz.pinned (OpenSpec.upto sheetSumsSpec)

/-- 'novationlaw13.SheetTokens', WHERE WHAT IT READS IS OF BULK AT MOST 1048576: true; the input reads as it did. -/
def sheetTokensUptoRow : OpenClaim := { program := "ytkobkpepgdddeaagreatdoor", sum := "79d2e4c5bdb7884989d8b00c59323688283f099b13df9df910f70a2985723e6a", func := "novation/novationlaw13.SheetTokens", spec := "sheetTokens", inPlace := ["internal/bytealg.IndexByteString", "internal/abi.NoEscape", "internal/bytealg.MakeNoZero", "internal/bytealg.IndexString"], unfollowed := true, recurses := true, named := ["unicode/utf8.first", "unicode/utf8.acceptRanges", "novation/contract.parts", "novation/observable.shapes", "internal/bytealg.MaxLen"], apart := false, laid := [("unicode/utf8.acceptRanges", laid_unicode_utf8_acceptRanges), ("novation/observable.shapes", laid_novation_observable_shapes), ("novation/contract.parts", laid_novation_contract_parts), ("unicode/utf8.first", laid_unicode_utf8_first)], narrowed := true }
def SheetTokensUptoSaid : Prop := sheetTokensUptoRow.holds Tryz.pinned (OpenSpec.upto sheetTokensSpec)

end Rows
end Go.Proofs.YtkobkpepgdddeaaGreatDoor
