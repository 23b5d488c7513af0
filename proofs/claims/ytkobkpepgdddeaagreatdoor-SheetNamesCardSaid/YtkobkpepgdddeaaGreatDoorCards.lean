/-
  DERIVED. GIVEN WITH THE SEED: THE CARDS: each row of YtkobkpepgdddeaaGreatDoorRows.lean that lists a variable, with what it lists TIED to the program's text (the seventh form; the later family's looks); each row that meets fmt, with fmt's text TOLD by the authors' own Lean function (tested against real Go, not proved from fmt's source: count such statements apart). THE CARD IS WHAT COUNTS. Prove the row's statement (the work); the ties are given (YtkobkpepgdddeaaGreatDoorTie.lean); close each card by the builder's one call (the guide's Derived/Test/ToyasCard.lean, 'card_holds'). Laid BY PROGRAM, IN A SANDBOX (cutbox-door.mjs). By AI agents, Wed Nov 11 2026. No macro, syntax, notation, axiom, sorry.
-/
import Derived.Test.YtkobkpepgdddeaaGreatDoorRows
import GoSem.ClaimSeven
namespace Go.Proofs.YtkobkpepgdddeaaGreatDoor
namespace Rows

/-- THE TIED CARD OF 'novationlaw14.PrinterExprs'. -/
def printerExprsCard : Claim7 := { stood := { row := printerExprsRow, standIns := [], harness := (true, "555d68f678265d297ff57b12c1bf806460bcefeb24344d1d0895e5570f701912"), looks := true }, kinds := [], alts := [], laidByText := true, laidKinds := [.mappedDeep], laidTests := true, laidLooks := .later }
def PrinterExprsCardSaid : Prop := Claim7.holds Tryz.pinned (.plain (OpenSpec.ofChange printerExprsSpec)) printerExprsCard

/-- THE TIED CARD OF 'novationlaw14.PrinterPrints'. -/
def printerPrintsCard : Claim7 := { stood := { row := printerPrintsRow, standIns := [], harness := (true, "555d68f678265d297ff57b12c1bf806460bcefeb24344d1d0895e5570f701912"), looks := true }, kinds := [], alts := [], laidByText := true, laidKinds := [.mappedDeep, .mapped], laidTests := true, laidLooks := .later }
def PrinterPrintsCardSaid : Prop := Claim7.holds Tryz.pinned (.plain (OpenSpec.ofChange printerPrintsSpec)) printerPrintsCard

/-- THE TIED CARD OF 'novationlaw13.SheetExprs'. -/
def sheetExprsCard : Claim7 := { stood := { row := sheetExprsRow, standIns := [], harness := (true, "555d68f678265d297ff57b12c1bf806460bcefeb24344d1d0895e5570f701912"), looks := true }, kinds := [], alts := [], laidByText := true, laidKinds := [.data, .mappedDeep, .pinned], laidTests := true, laidLooks := .later }
def SheetExprsCardSaid : Prop := Claim7.holds Tryz.pinned (.plain (OpenSpec.ofChange sheetExprsSpec)) sheetExprsCard

/-- THE TIED CARD OF 'novationlaw13.SheetWritten'. -/
def sheetWrittenCard : Claim7 := { stood := { row := sheetWrittenRow, standIns := [], harness := (true, "555d68f678265d297ff57b12c1bf806460bcefeb24344d1d0895e5570f701912"), looks := true }, kinds := [], alts := [], laidByText := true, laidKinds := [.data, .mappedDeep, .mapped, .pinned], laidTests := true, laidLooks := .later }
def SheetWrittenCardSaid : Prop := Claim7.holds Tryz.pinned (.plain (OpenSpec.ofChange sheetWrittenSpec)) sheetWrittenCard

/-- THE TIED CARD OF 'novationlaw13.SheetNames'. -/
def sheetNamesCard : Claim7 := { stood := { row := sheetNamesRow, standIns := [], harness := (true, "555d68f678265d297ff57b12c1bf806460bcefeb24344d1d0895e5570f701912"), looks := true }, kinds := [], alts := [], laidByText := true, laidKinds := [.data, .mappedDeep, .mapped, .pinned], laidTests := true, laidLooks := .later }
def SheetNamesCardSaid : Prop := Claim7.holds Tryz.pinned (.plain (OpenSpec.ofChange sheetNamesSpec)) sheetNamesCard

/-- THE TIED CARD OF 'novationlaw13.SheetWords'. -/
def sheetWordsCard : Claim7 := { stood := { row := sheetWordsRow, standIns := [], harness := (true, "555d68f678265d297ff57b12c1bf806460bcefeb24344d1d0895e5570f701912"), looks := true }, kinds := [], alts := [], laidByText := true, laidKinds := [.data, .mappedDeep, .mapped, .pinned], laidTests := true, laidLooks := .later }
def SheetWordsCardSaid : Prop := Claim7.holds Tryz.pinned (.plain (OpenSpec.ofChange sheetWordsSpec)) sheetWordsCard

/-- THE TIED CARD OF 'novationlaw13.SheetBuilt'. -/
def sheetBuiltCard : Claim7 := { stood := { row := sheetBuiltRow, standIns := [], harness := (true, "555d68f678265d297ff57b12c1bf806460bcefeb24344d1d0895e5570f701912"), looks := true }, kinds := [], alts := [], laidByText := true, laidKinds := [.data, .mappedDeep, .mapped, .pinned], laidTests := true, laidLooks := .later }
def SheetBuiltCardSaid : Prop := Claim7.holds Tryz.pinned (.plain (OpenSpec.ofChange sheetBuiltSpec)) sheetBuiltCard

/-- THE TIED CARD OF 'novationlaw13.SheetSums'. -/
def sheetSumsCard : Claim7 := { stood := { row := sheetSumsRow, standIns := [], harness := (true, "555d68f678265d297ff57b12c1bf806460bcefeb24344d1d0895e5570f701912"), looks := true }, kinds := [], alts := [], laidByText := true, laidKinds := [.data, .mappedDeep, .mapped, .pinned], laidTests := true, laidLooks := .later }
def SheetSumsCardSaid : Prop := Claim7.holds Tryz.pinned (.plain (OpenSpec.ofChange sheetSumsSpec)) sheetSumsCard

/-- THE TIED CARD OF 'novationlaw13.SheetTokens'. -/
def sheetTokensCard : Claim7 := { stood := { row := sheetTokensRow, standIns := [], harness := (true, "555d68f678265d297ff57b12c1bf806460bcefeb24344d1d0895e5570f701912"), looks := true }, kinds := [], alts := [], laidByText := true, laidKinds := [.data, .mappedDeep, .mapped, .pinned], laidTests := true, laidLooks := .later }
def SheetTokensCardSaid : Prop := Claim7.holds Tryz.pinned (.plain (OpenSpec.ofChange sheetTokensSpec)) sheetTokensCard

/-- THE SECOND FORM's CARD OF 'novationlaw14.PrinterExprs'. -/
def printerExprsUptoCard : Claim7 := { stood := { row := printerExprsUptoRow, standIns := [], harness := (true, "555d68f678265d297ff57b12c1bf806460bcefeb24344d1d0895e5570f701912"), looks := true }, kinds := [], alts := [], laidByText := true, laidKinds := [.mappedDeep], laidTests := true, laidLooks := .later }
def PrinterExprsUptoCardSaid : Prop := Claim7.holds Tryz.pinned (.plain (OpenSpec.upto printerExprsSpec)) printerExprsUptoCard

/-- THE SECOND FORM's CARD OF 'novationlaw14.PrinterPrints'. -/
def printerPrintsUptoCard : Claim7 := { stood := { row := printerPrintsUptoRow, standIns := [], harness := (true, "555d68f678265d297ff57b12c1bf806460bcefeb24344d1d0895e5570f701912"), looks := true }, kinds := [], alts := [], laidByText := true, laidKinds := [.mappedDeep, .mapped], laidTests := true, laidLooks := .later }
def PrinterPrintsUptoCardSaid : Prop := Claim7.holds Tryz.pinned (.plain (OpenSpec.upto printerPrintsSpec)) printerPrintsUptoCard

/-- THE SECOND FORM's CARD OF 'novationlaw13.SheetExprs'. -/
def sheetExprsUptoCard : Claim7 := { stood := { row := sheetExprsUptoRow, standIns := [], harness := (true, "555d68f678265d297ff57b12c1bf806460bcefeb24344d1d0895e5570f701912"), looks := true }, kinds := [], alts := [], laidByText := true, laidKinds := [.data, .mappedDeep, .pinned], laidTests := true, laidLooks := .later }
def SheetExprsUptoCardSaid : Prop := Claim7.holds Tryz.pinned (.plain (OpenSpec.upto sheetExprsSpec)) sheetExprsUptoCard

/-- THE SECOND FORM's CARD OF 'novationlaw13.SheetWritten'. -/
def sheetWrittenUptoCard : Claim7 := { stood := { row := sheetWrittenUptoRow, standIns := [], harness := (true, "555d68f678265d297ff57b12c1bf806460bcefeb24344d1d0895e5570f701912"), looks := true }, kinds := [], alts := [], laidByText := true, laidKinds := [.data, .mappedDeep, .mapped, .pinned], laidTests := true, laidLooks := .later }
def SheetWrittenUptoCardSaid : Prop := Claim7.holds Tryz.pinned (.plain (OpenSpec.upto sheetWrittenSpec)) sheetWrittenUptoCard

/-- THE SECOND FORM's CARD OF 'novationlaw13.SheetNames'. -/
def sheetNamesUptoCard : Claim7 := { stood := { row := sheetNamesUptoRow, standIns := [], harness := (true, "555d68f678265d297ff57b12c1bf806460bcefeb24344d1d0895e5570f701912"), looks := true }, kinds := [], alts := [], laidByText := true, laidKinds := [.data, .mappedDeep, .mapped, .pinned], laidTests := true, laidLooks := .later }
def SheetNamesUptoCardSaid : Prop := Claim7.holds Tryz.pinned (.plain (OpenSpec.upto sheetNamesSpec)) sheetNamesUptoCard

/-- THE SECOND FORM's CARD OF 'novationlaw13.SheetWords'. -/
def sheetWordsUptoCard : Claim7 := { stood := { row := sheetWordsUptoRow, standIns := [], harness := (true, "555d68f678265d297ff57b12c1bf806460bcefeb24344d1d0895e5570f701912"), looks := true }, kinds := [], alts := [], laidByText := true, laidKinds := [.data, .mappedDeep, .mapped, .pinned], laidTests := true, laidLooks := .later }
def SheetWordsUptoCardSaid : Prop := Claim7.holds Tryz.pinned (.plain (OpenSpec.upto sheetWordsSpec)) sheetWordsUptoCard

/-- THE SECOND FORM's CARD OF 'novationlaw13.SheetBuilt'. -/
def sheetBuiltUptoCard : Claim7 := { stood := { row := sheetBuiltUptoRow, standIns := [], harness := (true, "555d68f678265d297ff57b12c1bf806460bcefeb24344d1d0895e5570f701912"), looks := true }, kinds := [], alts := [], laidByText := true, laidKinds := [.data, .mappedDeep, .mapped, .pinned], laidTests := true, laidLooks := .later }
def SheetBuiltUptoCardSaid : Prop := Claim7.holds Tryz.pinned (.plain (OpenSpec.upto sheetBuiltSpec)) sheetBuiltUptoCard

/-- THE SECOND FORM's CARD OF 'novationlaw13.SheetSums'. -/
def sheetSumsUptoCard : Claim7 := { stood := { row := sheetSumsUptoRow, standIns := [], harness := (true, "555d68f678265d297ff57b12c1bf806460bcefeb24344d1d0895e5570f701912"), looks := true }, kinds := [], alts := [], laidByText := true, laidKinds := [.data, .mappedDeep, .mapped, .pinned], laidTests := true, laidLooks := .later }
def SheetSumsUptoCardSaid : Prop := Claim7.holds Tryz.pinned (.plain (OpenSpec.upto sheetSumsSpec)) sheetSumsUptoCard

/-- THE SECOND FORM's CARD OF 'novationlaw13.SheetTokens'. -/
def sheetTokensUptoCard : Claim7 := { stood := { row := sheetTokensUptoRow, standIns := [], harness := (true, "555d68f678265d297ff57b12c1bf806460bcefeb24344d1d0895e5570f701912"), looks := true }, kinds := [], alts := [], laidByText := true, laidKinds := [.data, .mappedDeep, .mapped, .pinned], laidTests := true, laidLooks := .later }
def SheetTokensUptoCardSaid : Prop := Claim7.holds Tryz.pinned (.plain (OpenSpec.upto sheetTokensSpec)) sheetTokensUptoCard
end Rows
end Go.Proofs.YtkobkpepgdddeaaGreatDoor
