/-
  The reference's Result, Mul, Add of integers, by value. No condition. The reference's Add of integers, by value. No condition.
-/
import Derived.Test.YtnmiiimbjojcmaaGreatDoorYa
import Derived.Test.YtnmiiimbjojcmaaGreatDoorVf
namespace Go.Proofs.YtnmiiimbjojcmaaGreatDoor
open Go.RowKit

def resT (z : Int) : List UInt8 := if bigZ z = true then [] else txtZ z
def resF (z : Int) : Int := if bigZ z = true then 14 else 0
def sgnZ (neg : Bool) (n : Nat) : Int := if neg then -(n : Int) else (n : Int)
/-- Digits of a canonical integer. -/
def DigOK (w : World) (z : Int) (e : Ending) (w' : World) : Prop :=
  ∃ a n c, e = .returned (.tuple #[.slice a n c, .bool (decide (z < 0)), .bool true]) ∧ (decN z.natAbs).length = n ∧ n ≤ c ∧ Nums .i64 w' a (decN z.natAbs) ∧ Below w.heap.size w w'
theorem digits_ok (s : ByteArray) (z : Int) (w : World) (hs : s.size ≤ 1000000) (h : s.data.toList = txtZ z) : Calls Tryz.prog 111 #[.string s] w (DigOK w z) :=
  (digits_any s w hs).mono fun e w' hp => by
    rcases hp with ⟨y, a, n, c, e1, e2, e3, e4, e5, e6⟩ | ⟨e1, _⟩
    · rw [h, rdZ_txtZ] at e1; injection e1 with e1; subst e1
      exact ⟨a, n, c, e2, e3, e4, e5, e6⟩
    · rw [h, rdZ_txtZ] at e1; cases e1
theorem bothZ_ok {x y : Int} (bx : bigZ x = false) (byy : bigZ y = false) : bothZ (txtZ x) (txtZ y) = 0 := by
  unfold bothZ; rw [chkZ_txtZ, chkZ_txtZ, bx, byy]; rfl
theorem txtZ_len_le (z : Int) {n : Nat} (h : z.natAbs < 10 ^ n) : (txtZ z).length ≤ n + 2 := by
  have h1 := (decN_len_le z.natAbs (n + 1) (by omega)).2 (Nat.lt_of_lt_of_le h (Nat.pow_le_pow_right (by omega) (by omega)))
  unfold txtZ
  split
  · rw [List.length_cons, txtN_len]; omega
  · rw [txtN_len]; omega
theorem sgn_abs (neg : Bool) (n : Nat) : (sgnZ neg n).natAbs = n := by unfold sgnZ; cases neg <;> simp

theorem sgn_mul (x y : Int) (nx ny : Bool) (hx : nx = decide (x < 0)) (hy : ny = decide (y < 0)) : sgnZ (nx != ny) (x.natAbs * y.natAbs) = x * y := by
  have key : ((x.natAbs * y.natAbs : Nat) : Int) = (x.natAbs : Int) * (y.natAbs : Int) := by push_cast; rfl
  unfold sgnZ
  rw [key]
  by_cases h1 : x < 0 <;> by_cases h2 : y < 0
  · have e1 : (x.natAbs : Int) = -x := by omega
    have e2 : (y.natAbs : Int) = -y := by omega
    simp [hx, hy, h1, h2, e1, e2, Int.neg_mul_neg]
  · have e1 : (x.natAbs : Int) = -x := by omega
    have e2 : (y.natAbs : Int) = y := by omega
    simp [hx, hy, h1, h2, e1, e2, Int.neg_mul]
  · have e1 : (x.natAbs : Int) = x := by omega
    have e2 : (y.natAbs : Int) = -y := by omega
    simp [hx, hy, h1, h2, e1, e2, Int.mul_neg]
  · have e1 : (x.natAbs : Int) = x := by omega
    have e2 : (y.natAbs : Int) = y := by omega
    simp [hx, hy, h1, h2, e1, e2]
end Go.Proofs.YtnmiiimbjojcmaaGreatDoor

namespace Go.Proofs.YtnmiiimbjojcmaaGreatDoor
open Go.RowKit

theorem sgn_same (x y : Int) (g : Bool) (hx : g = decide (x < 0)) (hy : g = decide (y < 0)) : sgnZ g (x.natAbs + y.natAbs) = x + y := by
  unfold sgnZ
  cases g
  · have h1 : ¬ x < 0 := by simpa using hx
    have h2 : ¬ y < 0 := by simpa using hy
    simp; omega
  · have h1 : x < 0 := by simpa using hx
    have h2 : y < 0 := by simpa using hy
    simp; omega
theorem sgn_ge (x y : Int) (nx ny : Bool) (hx : nx = decide (x < 0)) (hy : ny = decide (y < 0)) (hne : (nx == ny) = false) (h : y.natAbs ≤ x.natAbs) : sgnZ nx (x.natAbs - y.natAbs) = x + y := by
  unfold sgnZ
  cases nx <;> cases ny <;> simp at hne
  · have h1 : ¬ x < 0 := by simpa using hx
    have h2 : y < 0 := by simpa using hy
    simp; omega
  · have h1 : x < 0 := by simpa using hx
    have h2 : ¬ y < 0 := by simpa using hy
    simp; omega
theorem sgn_lt (x y : Int) (nx ny : Bool) (hx : nx = decide (x < 0)) (hy : ny = decide (y < 0)) (hne : (nx == ny) = false) (h : x.natAbs < y.natAbs) : sgnZ ny (y.natAbs - x.natAbs) = x + y := by
  unfold sgnZ
  cases nx <;> cases ny <;> simp at hne
  · have h1 : ¬ x < 0 := by simpa using hx
    have h2 : y < 0 := by simpa using hy
    simp; omega
  · have h1 : x < 0 := by simpa using hx
    have h2 : ¬ y < 0 := by simpa using hy
    simp; omega

end Go.Proofs.YtnmiiimbjojcmaaGreatDoor
