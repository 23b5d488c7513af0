/-
  The program's integer of an int. No condition. The program's int of an integer. No condition.
-/
import Derived.Test.YtnmiiimbjojcmaaGreatDoorVq
import Derived.WalkLawsBesides
import Derived.Outline
namespace Go.Proofs.YtnmiiimbjojcmaaGreatDoor
open Go.RowKit

theorem decN_small {m : Nat} (h : m < 10) : decN m = [m] := by
  unfold decN
  by_cases h0 : m = 0
  · subst h0; rfl
  · rw [if_neg h0, decL_pos h0, show m / 10 = 0 by omega, decL_zero, show m % 10 = m by omega]
theorem decN_big {m : Nat} (h : 10 ≤ m) : decN m = m % 10 :: decN (m / 10) := by
  unfold decN
  rw [if_neg (by omega), if_neg (by omega), decL_pos (by omega : m ≠ 0)]
/-- The digits so far, and what is left. -/
def OfR (w : World) (N : Nat) (nv : Nat → Value) (a b : Value) (wr : World) : Prop :=
  ∃ (m : Nat) (ds : List Nat), a = nv m ∧ m ≤ N ∧ wr.ownsRow w.heap.size 5 1 b ds.length (bytesD ds) ∧ decN N = ds ++ decN m ∧ Below w.heap.size w wr
theorem ofR_next {N m : Nat} {ds : List Nat} (h : decN N = ds ++ decN m) : (m < 10 → decN N = ds ++ [m % 10]) ∧ (10 ≤ m → decN N = (ds ++ [m % 10]) ++ decN (m / 10)) := by
  constructor
  · intro hm; rw [h, decN_small hm, show m % 10 = m by omega]
  · intro hm; rw [h, decN_big hm]; simp
theorem decN_len19 {N : Nat} (h : N < 10000000000000000000) : (decN N).length ≤ 19 := (decN_len_le N 19 (by omega)).2 (by omega)


end Go.Proofs.YtnmiiimbjojcmaaGreatDoor

namespace Go.Proofs.YtnmiiimbjojcmaaGreatDoor
open Go.RowKit

def toR (z : Int) : Int × Int := if -9223372036854775808 ≤ z ∧ z ≤ 9223372036854775807 then (z, 0) else (0, 14)
def ToPost (w : World) (z : Int) (e : Ending) (w' : World) : Prop := e = .returned (.tuple #[.int .i64 (toR z).1, .int .i64 (toR z).2]) ∧ Below w.heap.size w w'
theorem toR_in {z : Int} (h1 : -9223372036854775808 ≤ z) (h2 : z ≤ 9223372036854775807) : toR z = (z, 0) := by unfold toR; rw [if_pos ⟨h1, h2⟩]
theorem toR_out {z : Int} (h : z < -9223372036854775808 ∨ 9223372036854775807 < z) : toR z = (0, 14) := by unfold toR; rw [if_neg (by omega)]
theorem negw (N : Nat) (h : N ≤ 9223372036854775808) : wrap64 (IntKind.u64.wrap (-(N : Int))) = -(N : Int) := by
  unfold wrap64 IntKind.wrap
  simp [IntKind.bits, IntKind.signed]
  omega
def undigV (t : ByteArray) (k : Nat) : Nat := dval (undig (t.data.toList.take k))
def ToR (t : ByteArray) (uv iv : Value) : Prop := ∃ k : Nat, k ≤ t.size ∧ iv = .int .i64 (k : Int) ∧ uv = .int .u64 (undigV t k : Int)
theorem undigV_next (t : ByteArray) (k : Nat) (h : k < t.size) : undigV t (k + 1) = 10 * undigV t k + (t[k].toNat - 48) := by
  unfold undigV
  rw [data_take t k h, dval_undig_snoc]; omega
theorem undigV_lt (t : ByteArray) (k : Nat) (hd : ∀ c ∈ t.data.toList, 48 ≤ c.toNat ∧ c.toNat ≤ 57) (hk : k ≤ 19) : undigV t k < 10 ^ 19 := by
  have h := dval_lt (undig (t.data.toList.take k)) (undig_lt _ fun c hc => hd c (List.mem_of_mem_take hc))
  refine Nat.lt_of_lt_of_le h (Nat.pow_le_pow_right (by omega) ?_)
  unfold undig
  rw [List.length_map, List.length_reverse, List.length_take]; omega

end Go.Proofs.YtnmiiimbjojcmaaGreatDoor
