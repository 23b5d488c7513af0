/-
  The reference's event.Parse: two boxes and the words. No condition.
-/
import Derived.Test.YtcfgpojogomkhaaGreatDoorRd
import Derived.Test.YtcfgpojogomkhaaGreatDoorRf
import Derived.Test.YtcfgpojogomkhaaGreatDoorRg
import Derived.Test.YtcfgpojogomkhaaGreatDoorWc
import Derived.Deep.RegionHeld
namespace Go.Proofs.YtcfgpojogomkhaaGreatDoor
open Go.RowKit

def CutN (w : World) (n : Nat) (l : List Value) (e : Ending) (w' : World) : Prop :=
  ∃ r c : Nat, e = .returned (.slice (some ⟨r, 0, none⟩) n c) ∧ w.heap.size ≤ r ∧ RowAt w' r 9 l ∧ Below w.heap.size w w'
/-- What the reference's Parse hands back. -/
def RpP (w : World) (v : Value) (G : Bool) (e : Ending) (w' : World) : Prop :=
  Below w.heap.size w w' ∧ ((G = true ∧ e = .returned (.tuple #[v, .int .i64 0])) ∨ (G = false ∧ e = .returned (.tuple #[zEv, .int .i64 12])))
/-- The box of the result, the box of the event, the words. -/
structure TwoB (w : World) (q r : Nat) (l : List Value) (cs : Array Value) (W : World) : Prop where
  z : W.heap[w.heap.size]? = some (.cells #[.int .u8 0, .int .i64 0, .int .i64 0, .int .i64 0, .int .i64 0, .string ⟨#[]⟩, .string ⟨#[]⟩, .string ⟨#[]⟩, .bool false] 24)
  o : W.heap[q]? = some (.cells cs 24)
  row : RowAt W r 9 l
  h : Below w.heap.size w W
  q1 : w.heap.size < q
  qr : q ≠ r
  r1 : w.heap.size < r
theorem TwoB.next {w W W' : World} {q r : Nat} {l : List Value} {cs : Array Value} (t : TwoB w q r l cs W) (hb : Below W.heap.size W W') : TwoB w q r l cs W' :=
  ⟨(objNext (B := 0) ⟨Nat.zero_le _, t.z⟩ hb).2, (objNext (B := 0) ⟨Nat.zero_le _, t.o⟩ hb).2, t.row.below hb t.row.lt, t.h.trans (hb.mono t.h.size), t.q1, t.qr, t.r1⟩
theorem TwoB.set {w W : World} {q r : Nat} {l : List Value} {cs : Array Value} (t : TwoB w q r l cs W) (i : Nat) (v : Value) : TwoB w q r l (cs.setIfInBounds i v) (W.setCell ⟨q, i, none⟩ v) :=
  ⟨by rw [Below.heap_setCell _ _ _ _ (show w.heap.size ≠ q from Nat.ne_of_lt t.q1)]; exact t.z, objSet t.o i v, t.row.other (by exact Ne.symm t.qr) v, t.h.setCell (Nat.le_of_lt t.q1) _, t.q1, t.qr, t.r1⟩

end Go.Proofs.YtcfgpojogomkhaaGreatDoor
