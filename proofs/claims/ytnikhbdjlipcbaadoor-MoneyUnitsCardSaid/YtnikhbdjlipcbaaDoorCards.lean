/-
  DERIVED. GIVEN WITH THE SEED: THE CARDS: each row of YtnikhbdjlipcbaaDoorRows.lean that lists a variable, with what it lists TIED to the program's text (the seventh form; the later family's looks); each row that meets fmt, with fmt's text TOLD by the authors' own Lean function (tested against real Go, not proved from fmt's source: count such statements apart). THE CARD IS WHAT COUNTS. Prove the row's statement (the work); the ties are given (YtnikhbdjlipcbaaDoorTie.lean); close each card by the builder's one call (the guide's Derived/Test/ToyasCard.lean, 'card_holds'). Laid BY PROGRAM, IN A SANDBOX (cutbox-door.mjs). By AI agents, Wed Nov 11 2026. No macro, syntax, notation, axiom, sorry.
-/
import Derived.Test.YtnikhbdjlipcbaaDoorRows
import GoSem.ClaimSeven
namespace Go.Proofs.YtnikhbdjlipcbaaDoor
namespace Rows

/-- THE TIED CARD OF 'novationlaw07.MoneyUnits'. -/
def moneyUnitsCard : Claim7 := { stood := { row := moneyUnitsRow, standIns := [], harness := (true, "588fbc9c3d79061cbab651391cb208670ecc6354460c6604487af054d937c7fe"), looks := true }, kinds := [], alts := [], laidByText := true, laidKinds := [.funcs], laidTests := true, laidLooks := .later }
def MoneyUnitsCardSaid : Prop := Claim7.holds Tryd.pinned (.plain (OpenSpec.ofChange moneyUnitsSpec)) moneyUnitsCard

/-- THE TIED CARD OF 'novationlaw07.MoneyTexts'. -/
def moneyTextsCard : Claim7 := { stood := { row := moneyTextsRow, standIns := [], harness := (true, "588fbc9c3d79061cbab651391cb208670ecc6354460c6604487af054d937c7fe"), looks := true }, kinds := [], alts := [], laidByText := true, laidKinds := [.data, .data, .data, .data, .sentinel, .sentinel, .pinned], laidTests := true, laidLooks := .later }
def MoneyTextsCardSaid : Prop := Claim7.holds Tryd.pinned (.plain (OpenSpec.ofChange moneyTextsSpec)) moneyTextsCard

/-- THE SECOND FORM's CARD OF 'novationlaw07.MoneyUnits'. -/
def moneyUnitsUptoCard : Claim7 := { stood := { row := moneyUnitsUptoRow, standIns := [], harness := (true, "588fbc9c3d79061cbab651391cb208670ecc6354460c6604487af054d937c7fe"), looks := true }, kinds := [], alts := [], laidByText := true, laidKinds := [.funcs], laidTests := true, laidLooks := .later }
def MoneyUnitsUptoCardSaid : Prop := Claim7.holds Tryd.pinned (.plain (OpenSpec.upto moneyUnitsSpec)) moneyUnitsUptoCard

/-- THE SECOND FORM's CARD OF 'novationlaw07.MoneyTexts'. -/
def moneyTextsUptoCard : Claim7 := { stood := { row := moneyTextsUptoRow, standIns := [], harness := (true, "588fbc9c3d79061cbab651391cb208670ecc6354460c6604487af054d937c7fe"), looks := true }, kinds := [], alts := [], laidByText := true, laidKinds := [.data, .data, .data, .data, .sentinel, .sentinel, .pinned], laidTests := true, laidLooks := .later }
def MoneyTextsUptoCardSaid : Prop := Claim7.holds Tryd.pinned (.plain (OpenSpec.upto moneyTextsSpec)) moneyTextsUptoCard
end Rows
end Go.Proofs.YtnikhbdjlipcbaaDoor
