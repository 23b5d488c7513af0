/-
  DERIVED. GIVEN WITH THE SEED: THE CARDS: each row of YtcfgpojogomkhaaGreatDoorRows.lean that lists a variable, with what it lists TIED to the program's text (the seventh form; the later family's looks); each row that meets fmt, with fmt's text TOLD by the authors' own Lean function (tested against real Go, not proved from fmt's source: count such statements apart). THE CARD IS WHAT COUNTS. Prove the row's statement (the work); the ties are given (YtcfgpojogomkhaaGreatDoorTie.lean); close each card by the builder's one call (the guide's Derived/Test/ToyasCard.lean, 'card_holds'). Laid BY PROGRAM, IN A SANDBOX (cutbox-door.mjs). By AI agents, Wed Nov 11 2026. No macro, syntax, notation, axiom, sorry.
-/
import Derived.Test.YtcfgpojogomkhaaGreatDoorRows
import GoSem.ClaimSeven
namespace Go.Proofs.YtcfgpojogomkhaaGreatDoor
namespace Rows

/-- THE TIED CARD OF 'novationlaw17.EventTexts'. -/
def eventTextsCard : Claim7 := { stood := { row := eventTextsRow, standIns := [], harness := (true, "6a0dfc6394504b30a5c5cb4ba0b21aced933907e982a6b4471790eae4e97cbce"), looks := true }, kinds := [], alts := [], laidByText := true, laidKinds := [.data, .data, .data, .data, .sentinel, .sentinel, .pinned], laidTests := true, laidLooks := .later }
def EventTextsCardSaid : Prop := Claim7.holds Tryz.pinned (.plain (OpenSpec.ofChange eventTextsSpec)) eventTextsCard

/-- THE TIED CARD OF 'novationlaw17.EventTotal'. -/
def eventTotalCard : Claim7 := { stood := { row := eventTotalRow, standIns := [], harness := (true, "6a0dfc6394504b30a5c5cb4ba0b21aced933907e982a6b4471790eae4e97cbce"), looks := true }, kinds := [], alts := [], laidByText := true, laidKinds := [.data, .data, .data, .data, .sentinel, .sentinel, .pinned], laidTests := true, laidLooks := .later }
def EventTotalCardSaid : Prop := Claim7.holds Tryz.pinned (.plain (OpenSpec.ofChange eventTotalSpec)) eventTotalCard

/-- THE TIED CARD OF 'novationlaw17.EventWords'. -/
def eventWordsCard : Claim7 := { stood := { row := eventWordsRow, standIns := [], harness := (true, "6a0dfc6394504b30a5c5cb4ba0b21aced933907e982a6b4471790eae4e97cbce"), looks := true }, kinds := [], alts := [], laidByText := true, laidKinds := [.data, .data, .data, .data, .sentinel, .sentinel, .pinned], laidTests := true, laidLooks := .later }
def EventWordsCardSaid : Prop := Claim7.holds Tryz.pinned (.plain (OpenSpec.ofChange eventWordsSpec)) eventWordsCard

/-- THE TIED CARD OF 'novationlaw17.EventEntered'. -/
def eventEnteredCard : Claim7 := { stood := { row := eventEnteredRow, standIns := [], harness := (true, "6a0dfc6394504b30a5c5cb4ba0b21aced933907e982a6b4471790eae4e97cbce"), looks := true }, kinds := [], alts := [], laidByText := true, laidKinds := [.data, .data, .data, .data, .sentinel, .sentinel, .pinned], laidTests := true, laidLooks := .later }
def EventEnteredCardSaid : Prop := Claim7.holds Tryz.pinned (.plain (OpenSpec.ofChange eventEnteredSpec)) eventEnteredCard

/-- THE TIED CARD OF 'novationlaw17.EventNames'. -/
def eventNamesCard : Claim7 := { stood := { row := eventNamesRow, standIns := [], harness := (true, "6a0dfc6394504b30a5c5cb4ba0b21aced933907e982a6b4471790eae4e97cbce"), looks := true }, kinds := [], alts := [], laidByText := true, laidKinds := [.data, .data, .data, .data, .sentinel, .sentinel, .pinned], laidTests := true, laidLooks := .later }
def EventNamesCardSaid : Prop := Claim7.holds Tryz.pinned (.plain (OpenSpec.ofChange eventNamesSpec)) eventNamesCard

/-- THE TIED CARD OF 'novationlaw17.EventOrdered'. -/
def eventOrderedCard : Claim7 := { stood := { row := eventOrderedRow, standIns := [], harness := (true, "6a0dfc6394504b30a5c5cb4ba0b21aced933907e982a6b4471790eae4e97cbce"), looks := true }, kinds := [], alts := [], laidByText := true, laidKinds := [.data, .data, .data, .data, .sentinel, .sentinel, .pinned], laidTests := true, laidLooks := .later }
def EventOrderedCardSaid : Prop := Claim7.holds Tryz.pinned (.plain (OpenSpec.ofChange eventOrderedSpec)) eventOrderedCard

/-- THE SECOND FORM's CARD OF 'novationlaw17.EventTexts'. -/
def eventTextsUptoCard : Claim7 := { stood := { row := eventTextsUptoRow, standIns := [], harness := (true, "6a0dfc6394504b30a5c5cb4ba0b21aced933907e982a6b4471790eae4e97cbce"), looks := true }, kinds := [], alts := [], laidByText := true, laidKinds := [.data, .data, .data, .data, .sentinel, .sentinel, .pinned], laidTests := true, laidLooks := .later }
def EventTextsUptoCardSaid : Prop := Claim7.holds Tryz.pinned (.plain (OpenSpec.upto eventTextsSpec)) eventTextsUptoCard

/-- THE SECOND FORM's CARD OF 'novationlaw17.EventTotal'. -/
def eventTotalUptoCard : Claim7 := { stood := { row := eventTotalUptoRow, standIns := [], harness := (true, "6a0dfc6394504b30a5c5cb4ba0b21aced933907e982a6b4471790eae4e97cbce"), looks := true }, kinds := [], alts := [], laidByText := true, laidKinds := [.data, .data, .data, .data, .sentinel, .sentinel, .pinned], laidTests := true, laidLooks := .later }
def EventTotalUptoCardSaid : Prop := Claim7.holds Tryz.pinned (.plain (OpenSpec.upto eventTotalSpec)) eventTotalUptoCard

/-- THE SECOND FORM's CARD OF 'novationlaw17.EventWords'. -/
def eventWordsUptoCard : Claim7 := { stood := { row := eventWordsUptoRow, standIns := [], harness := (true, "6a0dfc6394504b30a5c5cb4ba0b21aced933907e982a6b4471790eae4e97cbce"), looks := true }, kinds := [], alts := [], laidByText := true, laidKinds := [.data, .data, .data, .data, .sentinel, .sentinel, .pinned], laidTests := true, laidLooks := .later }
def EventWordsUptoCardSaid : Prop := Claim7.holds Tryz.pinned (.plain (OpenSpec.upto eventWordsSpec)) eventWordsUptoCard

/-- THE SECOND FORM's CARD OF 'novationlaw17.EventEntered'. -/
def eventEnteredUptoCard : Claim7 := { stood := { row := eventEnteredUptoRow, standIns := [], harness := (true, "6a0dfc6394504b30a5c5cb4ba0b21aced933907e982a6b4471790eae4e97cbce"), looks := true }, kinds := [], alts := [], laidByText := true, laidKinds := [.data, .data, .data, .data, .sentinel, .sentinel, .pinned], laidTests := true, laidLooks := .later }
def EventEnteredUptoCardSaid : Prop := Claim7.holds Tryz.pinned (.plain (OpenSpec.upto eventEnteredSpec)) eventEnteredUptoCard

/-- THE SECOND FORM's CARD OF 'novationlaw17.EventNames'. -/
def eventNamesUptoCard : Claim7 := { stood := { row := eventNamesUptoRow, standIns := [], harness := (true, "6a0dfc6394504b30a5c5cb4ba0b21aced933907e982a6b4471790eae4e97cbce"), looks := true }, kinds := [], alts := [], laidByText := true, laidKinds := [.data, .data, .data, .data, .sentinel, .sentinel, .pinned], laidTests := true, laidLooks := .later }
def EventNamesUptoCardSaid : Prop := Claim7.holds Tryz.pinned (.plain (OpenSpec.upto eventNamesSpec)) eventNamesUptoCard

/-- THE SECOND FORM's CARD OF 'novationlaw17.EventOrdered'. -/
def eventOrderedUptoCard : Claim7 := { stood := { row := eventOrderedUptoRow, standIns := [], harness := (true, "6a0dfc6394504b30a5c5cb4ba0b21aced933907e982a6b4471790eae4e97cbce"), looks := true }, kinds := [], alts := [], laidByText := true, laidKinds := [.data, .data, .data, .data, .sentinel, .sentinel, .pinned], laidTests := true, laidLooks := .later }
def EventOrderedUptoCardSaid : Prop := Claim7.holds Tryz.pinned (.plain (OpenSpec.upto eventOrderedSpec)) eventOrderedUptoCard
end Rows
end Go.Proofs.YtcfgpojogomkhaaGreatDoor
