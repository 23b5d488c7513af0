/-
  DERIVED. GIVEN WITH THE SEED: THE CARDS: each row of YtijkefflpojmhaaGreatDoorRows.lean that lists a variable, with what it lists TIED to the program's text (the seventh form; the later family's looks); each row that meets fmt, with fmt's text TOLD by the authors' own Lean function (tested against real Go, not proved from fmt's source: count such statements apart). THE CARD IS WHAT COUNTS. Prove the row's statement (the work); the ties are given (YtijkefflpojmhaaGreatDoorTie.lean); close each card by the builder's one call (the guide's Derived/Test/ToyasCard.lean, 'card_holds'). Laid BY PROGRAM, IN A SANDBOX (cutbox-door.mjs). By AI agents, Wed Nov 11 2026. No macro, syntax, notation, axiom, sorry.
-/
import Derived.Test.YtijkefflpojmhaaGreatDoorRows
import GoSem.ClaimSeven
namespace Go.Proofs.YtijkefflpojmhaaGreatDoor
namespace Rows

/-- THE TIED CARD OF 'novationlaw14.PrinterPrints'. -/
def printerPrintsCard : Claim7 := { stood := { row := printerPrintsRow, standIns := [], harness := (true, "6d72bc6a3e79c27d78a1578949995e24ac571e5a1f42930c8defeb53d6228cd2"), looks := false }, kinds := [], alts := [], laidByText := true, laidKinds := [.mappedDeep, .mapped], laidTests := true, laidLooks := .later }
def PrinterPrintsCardSaid : Prop := Claim7.holds Tryz.pinned (.plain (OpenSpec.ofChange printerPrintsSpec)) printerPrintsCard

/-- THE SECOND FORM's CARD OF 'novationlaw14.PrinterPrints'. -/
def printerPrintsUptoCard : Claim7 := { stood := { row := printerPrintsUptoRow, standIns := [], harness := (true, "6d72bc6a3e79c27d78a1578949995e24ac571e5a1f42930c8defeb53d6228cd2"), looks := false }, kinds := [], alts := [], laidByText := true, laidKinds := [.mappedDeep, .mapped], laidTests := true, laidLooks := .later }
def PrinterPrintsUptoCardSaid : Prop := Claim7.holds Tryz.pinned (.plain (OpenSpec.upto printerPrintsSpec)) printerPrintsUptoCard
end Rows
end Go.Proofs.YtijkefflpojmhaaGreatDoor
