/-
  DERIVED. GIVEN WITH THE SEED: THE CARDS: each row of YtdgmpgejemgbbaaGreatDoorRows.lean that lists a variable, with what it lists TIED to the program's text (the seventh form; the later family's looks); each row that meets fmt, with fmt's text TOLD by the authors' own Lean function (tested against real Go, not proved from fmt's source: count such statements apart). THE CARD IS WHAT COUNTS. Prove the row's statement (the work); the ties are given (YtdgmpgejemgbbaaGreatDoorTie.lean); close each card by the builder's one call (the guide's Derived/Test/ToyasCard.lean, 'card_holds'). Laid BY PROGRAM, IN A SANDBOX (cutbox-door.mjs). By AI agents, Wed Nov 11 2026. No macro, syntax, notation, axiom, sorry.
-/
import Derived.Test.YtdgmpgejemgbbaaGreatDoorRows
import GoSem.ClaimSeven
namespace Go.Proofs.YtdgmpgejemgbbaaGreatDoor
namespace Rows

/-- THE TIED CARD OF 'novationlaw14.PrinterExprs'. -/
def printerExprsCard : Claim7 := { stood := { row := printerExprsRow, standIns := [], harness := (true, "9393fdaf380fa9f73ae8d03481d6ee871e29a3b962edde58c960ffe1fe177e59"), looks := false }, kinds := [], alts := [], laidByText := true, laidKinds := [.mappedDeep], laidTests := true, laidLooks := .later }
def PrinterExprsCardSaid : Prop := Claim7.holds Tryz.pinned (.plain (OpenSpec.ofChange printerExprsSpec)) printerExprsCard

/-- THE SECOND FORM's CARD OF 'novationlaw14.PrinterExprs'. -/
def printerExprsUptoCard : Claim7 := { stood := { row := printerExprsUptoRow, standIns := [], harness := (true, "9393fdaf380fa9f73ae8d03481d6ee871e29a3b962edde58c960ffe1fe177e59"), looks := false }, kinds := [], alts := [], laidByText := true, laidKinds := [.mappedDeep], laidTests := true, laidLooks := .later }
def PrinterExprsUptoCardSaid : Prop := Claim7.holds Tryz.pinned (.plain (OpenSpec.upto printerExprsSpec)) printerExprsUptoCard
end Rows
end Go.Proofs.YtdgmpgejemgbbaaGreatDoor
