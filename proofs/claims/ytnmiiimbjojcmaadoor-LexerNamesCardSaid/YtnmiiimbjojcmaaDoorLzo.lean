/-
  Too long texts. No condition.
-/
import Derived.Test.YtnmiiimbjojcmaaDoorXg
import Derived.Test.YtnmiiimbjojcmaaDoorVa
namespace Go.Proofs.YtnmiiimbjojcmaaDoor
open Go.RowKit Go.Shelf

def LexLong (w : World) (e : Ending) (w' : World) : Prop := e = .returned (.tuple #[.slice none 0 0, .int .i64 0, .int .i64 4]) ∧ Below w.heap.size w w'
set_option maxRecDepth 100000 in
theorem lex_long (s : ByteArray) (w : World) (hs : 20000 < s.size) (hs2 : s.size ≤ 1000000) : Calls Tryd.prog 12 #[.string s] w (LexLong w) := by
  have hgt : decide ((20000 : Int) < (s.size : Int)) = true := by simp; omega
  refine (callsIn_wide (n := 6)).1 ?_
  refine callsIn_of_wp_marks Tryd.func12 rfl trivial ?_ rfl
  simp only [Tryd.ntmps12, List.size_toArray, List.length_cons, List.length_nil, Nat.reduceAdd, Nat.reduceSub, Array.replicate_succ, Array.replicate_zero, List.push_toArray, List.append_toArray, List.nil_append, List.cons_append]
  gi_wp2
  refine ⟨.tuple #[.slice none 0 0, .int .i64 0, .int .i64 4], ?_, rfl, ((((Below.refl _ _).alloc (Nat.le_refl _) _).alloc (by simp) _).alloc (by simp; omega) _).alloc (by simp; omega) _⟩
  simp [results, Tryd.results12, go_sem]

end Go.Proofs.YtnmiiimbjojcmaaDoor
