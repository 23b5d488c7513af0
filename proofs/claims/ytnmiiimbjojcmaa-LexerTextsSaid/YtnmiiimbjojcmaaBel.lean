/-
  A region that draws its order, whose operations only read and whose callees may make blocks of their own: walked once, in the order of the text. No condition.
-/
import Derived.Test.YtnmiiimbjojcmaaKit
import Derived.BigQuiet
namespace Go.Proofs.Ytnmiiimbjojcmaa
open Go.RowKit

/-- A world that has what w had, and perhaps more. -/
structure BelOf (w : World) where
  u : World
  h : Below w.heap.size w u

instance (w : World) : Inhabited (BelOf w) := ⟨⟨w, Below.refl _ _⟩⟩

theorem region_bel {P : Program} {id : Nat} {Q : Exit → Act → World → Prop} {a : Act} {w : World} {l : List Oper} (hm : P.follows .mixedOrders = true) (hB : Region.lexB .any l.toArray = true)
    (h : wpQuiet P l.toArray (fun w' => ∃ p : BelOf w, w' = p.u) (fun a' => ∀ w', (∃ p : BelOf w, w' = p.u) → Q .normal a' w') l a) : (Code.region id l.toArray true).wp P Q a w :=
  wp_region_quiet (C := fun w' => ∃ p : BelOf w, w' = p.u) hm hB ⟨⟨w.drew, (Below.refl _ _).drew⟩, rfl⟩ (by simpa using h)

/-- A callee's contract, met in a world of the class. -/
theorem bel_of {P : Program} {f : FuncId} {args : Array Value} {w : World} {p : BelOf w} {v : Value}
    (h : Calls P f args p.u fun e w' => e = .returned v ∧ Below p.u.heap.size p.u w') : Calls P f args p.u fun e w'' => e = .returned v ∧ ∃ q : BelOf w, w'' = q.u :=
  h.mono fun _ w' ⟨he, hb⟩ => ⟨he, ⟨⟨w', p.h.trans (hb.mono p.h.size)⟩, rfl⟩⟩
/-- A cell of an old block, in every world of the class. -/
theorem cell_bel {w : World} {g o : Nat} {v : Value} (h : w.cell? ⟨g, o, none⟩ = some v) (p : BelOf w) : p.u.cell? ⟨g, o, none⟩ = some v :=
  ((bcell p.h).1 g o (cell_lt (a := ⟨g, o, none⟩) h)).trans h

end Go.Proofs.Ytnmiiimbjojcmaa
