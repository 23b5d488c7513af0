/-
  The program's Add, Sub, Mul, Compare of integers. No condition. The program's Sub, Compare of integers. No condition. The program's Mul of integers. No condition.
-/
import Derived.Test.YtnmiiimbjojcmaaGreatDoorVo
import Derived.Test.YtnmiiimbjojcmaaGreatDoorVa
namespace Go.Proofs.YtnmiiimbjojcmaaGreatDoor
open Go.RowKit

theorem natAt (w : World) (a : Option Addr) (n c : Nat) (l : List Nat) (z : Int) (g : Bool) (hg : g = decide (z < 0)) (hl : n = l.length) (hc : n ≤ c) (hn : Nums .u32 w a l) (hr : Rep l z.natAbs) : NumAt w (.agg #[.bool g, .slice a n c]) z := by
  subst hl
  exact ⟨a, c, l, by rw [hg], hc, hn, hr⟩
/-- A number is written. -/
theorem write_num (v : Value) (z : Int) (k : Nat) (w : World) (hk : k ≤ 50000) (hz : z.natAbs < Bs ^ k) (h : NumAt w v z) : Calls Tryz.prog 90 #[v] w (WritePost w z) := by
  obtain ⟨a, c, l, rfl, hc, hn, hr⟩ := h
  have hl := rep_len_of l _ k hr hz
  have := write_any (decide (z < 0)) a l.length c z.natAbs l w rfl (by omega) hr hn
  have e : (if decide (z < 0) = true then -(z.natAbs : Int) else (z.natAbs : Int)) = z := by
    by_cases h : z < 0 <;> simp [h] <;> omega
  rwa [e] at this
theorem add_lt {k : Nat} {x y : Int} (k1 : 1 ≤ k) (bx : x.natAbs < Bs ^ k) (bb : y.natAbs < Bs ^ k) : (x + y).natAbs < Bs ^ (k + k) := by
  refine Nat.lt_of_le_of_lt (Int.natAbs_add_le x y) (Nat.lt_of_lt_of_le (Nat.add_lt_add bx bb) ?_)
  rw [Nat.pow_add]
  exact two_pow k k1
theorem mul_lt {k : Nat} {x y : Int} (bx : x.natAbs < Bs ^ k) (bb : y.natAbs < Bs ^ k) : (x * y).natAbs < Bs ^ (k + k) := by
  rw [Int.natAbs_mul, Nat.pow_add]
  exact Nat.mul_lt_mul'' bx bb
theorem own_two (w : World) (o1 o2 : Obj) : Below w.heap.size w ((w.alloc o1).alloc o2) := ((Below.refl _ _).alloc (Nat.le_refl _) _).alloc (by simp) _

end Go.Proofs.YtnmiiimbjojcmaaGreatDoor

namespace Go.Proofs.YtnmiiimbjojcmaaGreatDoor
open Go.RowKit

def WriteU (w : World) (z : Int) (e : Ending) (w' : World) : Prop :=
  ∃ (r : ByteArray) (n : Int), e = .returned (.tuple #[.string r, .int .i64 n]) ∧ ((bigZ z = true ∧ r = ByteArray.empty ∧ n = 14) ∨ (bigZ z = false ∧ r = ⟨(txtZ z).toArray⟩ ∧ n = 0)) ∧ Below w.heap.size w w'
theorem WritePost.uni {w : World} {z : Int} {e : Ending} {w' : World} (h : WritePost w z e w') : WriteU w z e w' := by
  obtain ⟨h1 | h1, h2⟩ := h
  · exact ⟨_, _, h1.2, .inl ⟨h1.1, rfl, rfl⟩, h2⟩
  · exact ⟨_, _, h1.2, .inr ⟨h1.1, rfl, rfl⟩, h2⟩
theorem WriteU.back {w : World} {z : Int} {e : Ending} {w' : World} (h : WriteU w z e w') : WritePost w z e w' := by
  obtain ⟨r, n, h0, h1, h2⟩ := h
  rcases h1 with ⟨a, b, c⟩ | ⟨a, b, c⟩ <;> subst b c
  · exact ⟨.inl ⟨a, h0⟩, h2⟩
  · exact ⟨.inr ⟨a, h0⟩, h2⟩
def cmpZ (x y : Int) : Int := if x < y then -1 else if y < x then 1 else 0
theorem mul_sign (x y : Int) (nx ny : Bool) (hx : nx = decide (x < 0)) (hy : ny = decide (y < 0)) : (if (nx != ny) = true then -((x.natAbs * y.natAbs : Nat) : Int) else ((x.natAbs * y.natAbs : Nat) : Int)) = x * y := by
  have key : ((x.natAbs * y.natAbs : Nat) : Int) = (x.natAbs : Int) * (y.natAbs : Int) := by push_cast; rfl
  rw [key]
  by_cases h1 : x < 0 <;> by_cases h2 : y < 0
  · have e1 : (x.natAbs : Int) = -x := by omega
    have e2 : (y.natAbs : Int) = -y := by omega
    simp [hx, hy, h1, h2, e1, e2, Int.neg_mul_neg]
  · have e1 : (x.natAbs : Int) = -x := by omega
    have e2 : (y.natAbs : Int) = y := by omega
    simp [hx, hy, h1, h2, e1, e2, Int.neg_mul]
  · have e1 : (x.natAbs : Int) = x := by omega
    have e2 : (y.natAbs : Int) = -y := by omega
    simp [hx, hy, h1, h2, e1, e2, Int.mul_neg]
  · have e1 : (x.natAbs : Int) = x := by omega
    have e2 : (y.natAbs : Int) = y := by omega
    simp [hx, hy, h1, h2, e1, e2]

end Go.Proofs.YtnmiiimbjojcmaaGreatDoor

namespace Go.Proofs.YtnmiiimbjojcmaaGreatDoor
open Go.RowKit

end Go.Proofs.YtnmiiimbjojcmaaGreatDoor
