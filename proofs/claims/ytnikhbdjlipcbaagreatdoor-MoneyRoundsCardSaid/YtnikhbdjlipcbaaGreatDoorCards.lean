/-
  DERIVED. GIVEN WITH THE SEED: THE CARDS: each row of YtnikhbdjlipcbaaGreatDoorRows.lean that lists a variable, with what it lists TIED to the program's text (the seventh form; the later family's looks); each row that meets fmt, with fmt's text TOLD by the authors' own Lean function (tested against real Go, not proved from fmt's source: count such statements apart). THE CARD IS WHAT COUNTS. Prove the row's statement (the work); the ties are given (YtnikhbdjlipcbaaGreatDoorTie.lean); close each card by the builder's one call (the guide's Derived/Test/ToyasCard.lean, 'card_holds'). Laid BY PROGRAM, IN A SANDBOX (cutbox-door.mjs). By AI agents, Wed Nov 11 2026. No macro, syntax, notation, axiom, sorry.
-/
import Derived.Test.YtnikhbdjlipcbaaGreatDoorRows
import GoSem.ClaimSeven
namespace Go.Proofs.YtnikhbdjlipcbaaGreatDoor
namespace Rows

/-- THE TIED CARD OF 'novationlaw07.MoneyShares'. -/
def moneySharesCard : Claim7 := { stood := { row := moneySharesRow, standIns := [], harness := (true, "6fe55113321fa95632076e6af9b918bb7a39bbc234a7c7f594eeb28d189d9ccb"), looks := true }, kinds := [], alts := [], laidByText := true, laidKinds := [.data, .data, .data, .data, .sentinel, .sentinel, .funcs, .pinned], laidTests := true, laidLooks := .later }
def MoneySharesCardSaid : Prop := Claim7.holds Tryz.pinned (.plain (OpenSpec.ofChange moneySharesSpec)) moneySharesCard

/-- THE TIED CARD OF 'novationlaw07.MoneyWords'. -/
def moneyWordsCard : Claim7 := { stood := { row := moneyWordsRow, standIns := [], harness := (true, "6fe55113321fa95632076e6af9b918bb7a39bbc234a7c7f594eeb28d189d9ccb"), looks := true }, kinds := [], alts := [], laidByText := true, laidKinds := [.data, .data, .data, .data, .sentinel, .sentinel, .funcs, .pinned], laidTests := true, laidLooks := .later }
def MoneyWordsCardSaid : Prop := Claim7.holds Tryz.pinned (.plain (OpenSpec.ofChange moneyWordsSpec)) moneyWordsCard

/-- THE TIED CARD OF 'novationlaw07.MoneyBack'. -/
def moneyBackCard : Claim7 := { stood := { row := moneyBackRow, standIns := [], harness := (true, "6fe55113321fa95632076e6af9b918bb7a39bbc234a7c7f594eeb28d189d9ccb"), looks := true }, kinds := [], alts := [], laidByText := true, laidKinds := [.data, .data, .data, .data, .sentinel, .sentinel, .funcs, .pinned], laidTests := true, laidLooks := .later }
def MoneyBackCardSaid : Prop := Claim7.holds Tryz.pinned (.plain (OpenSpec.ofChange moneyBackSpec)) moneyBackCard

/-- THE TIED CARD OF 'novationlaw07.MoneyNames'. -/
def moneyNamesCard : Claim7 := { stood := { row := moneyNamesRow, standIns := [], harness := (true, "6fe55113321fa95632076e6af9b918bb7a39bbc234a7c7f594eeb28d189d9ccb"), looks := true }, kinds := [], alts := [], laidByText := true, laidKinds := [.data, .data, .data, .data, .sentinel, .sentinel, .funcs, .pinned], laidTests := true, laidLooks := .later }
def MoneyNamesCardSaid : Prop := Claim7.holds Tryz.pinned (.plain (OpenSpec.ofChange moneyNamesSpec)) moneyNamesCard

/-- THE TIED CARD OF 'novationlaw07.MoneyRounds'. -/
def moneyRoundsCard : Claim7 := { stood := { row := moneyRoundsRow, standIns := [], harness := (true, "6fe55113321fa95632076e6af9b918bb7a39bbc234a7c7f594eeb28d189d9ccb"), looks := true }, kinds := [], alts := [], laidByText := true, laidKinds := [.data, .data, .data, .data, .sentinel, .sentinel, .funcs, .pinned], laidTests := true, laidLooks := .later }
def MoneyRoundsCardSaid : Prop := Claim7.holds Tryz.pinned (.plain (OpenSpec.ofChange moneyRoundsSpec)) moneyRoundsCard

/-- THE SECOND FORM's CARD OF 'novationlaw07.MoneyShares'. -/
def moneySharesUptoCard : Claim7 := { stood := { row := moneySharesUptoRow, standIns := [], harness := (true, "6fe55113321fa95632076e6af9b918bb7a39bbc234a7c7f594eeb28d189d9ccb"), looks := true }, kinds := [], alts := [], laidByText := true, laidKinds := [.data, .data, .data, .data, .sentinel, .sentinel, .funcs, .pinned], laidTests := true, laidLooks := .later }
def MoneySharesUptoCardSaid : Prop := Claim7.holds Tryz.pinned (.plain (OpenSpec.upto moneySharesSpec)) moneySharesUptoCard

/-- THE SECOND FORM's CARD OF 'novationlaw07.MoneyWords'. -/
def moneyWordsUptoCard : Claim7 := { stood := { row := moneyWordsUptoRow, standIns := [], harness := (true, "6fe55113321fa95632076e6af9b918bb7a39bbc234a7c7f594eeb28d189d9ccb"), looks := true }, kinds := [], alts := [], laidByText := true, laidKinds := [.data, .data, .data, .data, .sentinel, .sentinel, .funcs, .pinned], laidTests := true, laidLooks := .later }
def MoneyWordsUptoCardSaid : Prop := Claim7.holds Tryz.pinned (.plain (OpenSpec.upto moneyWordsSpec)) moneyWordsUptoCard

/-- THE SECOND FORM's CARD OF 'novationlaw07.MoneyBack'. -/
def moneyBackUptoCard : Claim7 := { stood := { row := moneyBackUptoRow, standIns := [], harness := (true, "6fe55113321fa95632076e6af9b918bb7a39bbc234a7c7f594eeb28d189d9ccb"), looks := true }, kinds := [], alts := [], laidByText := true, laidKinds := [.data, .data, .data, .data, .sentinel, .sentinel, .funcs, .pinned], laidTests := true, laidLooks := .later }
def MoneyBackUptoCardSaid : Prop := Claim7.holds Tryz.pinned (.plain (OpenSpec.upto moneyBackSpec)) moneyBackUptoCard

/-- THE SECOND FORM's CARD OF 'novationlaw07.MoneyNames'. -/
def moneyNamesUptoCard : Claim7 := { stood := { row := moneyNamesUptoRow, standIns := [], harness := (true, "6fe55113321fa95632076e6af9b918bb7a39bbc234a7c7f594eeb28d189d9ccb"), looks := true }, kinds := [], alts := [], laidByText := true, laidKinds := [.data, .data, .data, .data, .sentinel, .sentinel, .funcs, .pinned], laidTests := true, laidLooks := .later }
def MoneyNamesUptoCardSaid : Prop := Claim7.holds Tryz.pinned (.plain (OpenSpec.upto moneyNamesSpec)) moneyNamesUptoCard

/-- THE SECOND FORM's CARD OF 'novationlaw07.MoneyRounds'. -/
def moneyRoundsUptoCard : Claim7 := { stood := { row := moneyRoundsUptoRow, standIns := [], harness := (true, "6fe55113321fa95632076e6af9b918bb7a39bbc234a7c7f594eeb28d189d9ccb"), looks := true }, kinds := [], alts := [], laidByText := true, laidKinds := [.data, .data, .data, .data, .sentinel, .sentinel, .funcs, .pinned], laidTests := true, laidLooks := .later }
def MoneyRoundsUptoCardSaid : Prop := Claim7.holds Tryz.pinned (.plain (OpenSpec.upto moneyRoundsSpec)) moneyRoundsUptoCard
end Rows
end Go.Proofs.YtnikhbdjlipcbaaGreatDoor
