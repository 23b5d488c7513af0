/-
  More small words for walks: rows of ints. No condition.
-/
import Derived.Test.YtnikhbdjlipcbaaDoorKit
namespace Go.Proofs.YtnikhbdjlipcbaaDoor
open Go.RowKit

theorem rowAt_alloc {w : World} {c : Array Value} {t : TypeId} {l : List Value} {g : Nat} (hg : g = w.heap.size) (hl : c.toList = l) : RowAt (w.alloc (.cells c t)) g t l := by
  subst hg; subst hl
  refine ⟨c, ?_, by simp, fun i _ => by simp⟩
  show (w.heap.push _)[w.heap.size]? = _
  simp
def ints (l : List Int) : List Value := l.map (Value.int .i64)
theorem ints_length (l : List Int) : (ints l).length = l.length := by simp [ints]
theorem ints_get (l : List Int) (i : Nat) (hi : i < l.length) : (ints l)[i]? = some (.int .i64 (l[i]?.getD 0)) := by
  simp [ints, List.getElem?_eq_getElem hi]
theorem ints_set (l : List Int) (i : Nat) (x : Int) : (ints l).set i (.int .i64 x) = ints (l.set i x) := by simp [ints, List.map_set]
theorem ints_snoc (l : List Int) (x : Int) : ints l ++ [.int .i64 x] = ints (l ++ [x]) := by simp [ints]
theorem take_snoc' (l : List Int) (k : Nat) (h : k < l.length) : l.take (k + 1) = l.take k ++ [l[k]?.getD 0] := by
  rw [List.take_add_one, List.getElem?_eq_getElem h]; rfl

end Go.Proofs.YtnikhbdjlipcbaaDoor
