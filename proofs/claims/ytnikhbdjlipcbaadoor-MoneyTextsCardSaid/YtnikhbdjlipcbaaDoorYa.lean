/-
  Plain mathematics: the text of an amount, and the amount of a text. No condition.
-/
import Derived.Test.YtnikhbdjlipcbaaDoorNum2
import Derived.Lib.ItoaNum
namespace Go.Proofs.YtnikhbdjlipcbaaDoor

theorem dDig (d : Nat) (h : d < 10) : (UInt8.ofNat (48 + d)).toNat = 48 + d := by rw [UInt8.toNat_ofNat']; omega
theorem dec_pos (n : Nat) : 1 ≤ (Lib.decDigits n).length := by
  rw [Lib.decDigits]
  split
  · simp
  · simp
/-- The digits of a number, with zeros ahead, parted before the last ones. -/
theorem pad_split (u : Nat) : ∀ n, List.replicate (u + 1 - (Lib.decDigits n).length) (48 : UInt8) ++ Lib.decDigits n = Lib.decDigits (n / 10 ^ u) ++ figB n u := by
  induction u with
  | zero =>
    intro n
    have := dec_pos n
    rw [show 0 + 1 - (Lib.decDigits n).length = 0 by omega]
    simp [figB]
  | succ u ih =>
    intro n
    have h := ih (n / 10)
    have e1 : n / 10 ^ (u + 1) = n / 10 / 10 ^ u := by rw [Nat.pow_succ, Nat.mul_comm, Nat.div_div_eq_div_mul]
    have e2 : figB n (u + 1) = figB (n / 10) u ++ [UInt8.ofNat (48 + n % 10)] := rfl
    rw [e1, e2, ← List.append_assoc, ← h]
    by_cases hn : n < 10
    · have e3 : Lib.decDigits n = [UInt8.ofNat (48 + n)] := by rw [Lib.decDigits, dif_pos hn]
      have e4 : n / 10 = 0 := by omega
      have e5 : Lib.decDigits 0 = [48] := by rw [Lib.decDigits]; rfl
      rw [e3, e4, e5, show n % 10 = n by omega]
      simp only [List.length_singleton]
      rw [show u + 1 + 1 - 1 = u + 1 by omega, show u + 1 - 1 = u by omega, List.replicate_succ']
    · have e3 : Lib.decDigits n = Lib.decDigits (n / 10) ++ [UInt8.ofNat (48 + n % 10)] := by rw [Lib.decDigits, dif_neg hn]
      rw [e3, List.length_append, List.length_singleton, show u + 1 + 1 - ((Lib.decDigits (n / 10)).length + 1) = u + 1 - (Lib.decDigits (n / 10)).length by omega, List.append_assoc]
/-- The text of an amount in a unit. -/
def amtB (n : Int) (u : Nat) (ccy : List UInt8) : List UInt8 :=
  (if n < 0 then [45] else []) ++ (Lib.decDigits (n.natAbs / 10 ^ u) ++ (if u = 0 then [] else 46 :: figB n.natAbs u)) ++ 32 :: ccy

/-- The value of digits. -/
def numL (l : List UInt8) : Nat := l.foldl (fun n c => 10 * n + (c.toNat - 48)) 0
theorem numL_snoc (l : List UInt8) (c : UInt8) : numL (l ++ [c]) = 10 * numL l + (c.toNat - 48) := by unfold numL; rw [List.foldl_append]; rfl
theorem numL_zero (l : List UInt8) : numL (48 :: l) = numL l := rfl
def isDig (c : UInt8) : Bool := decide (48 ≤ c.toNat ∧ c.toNat ≤ 57)
def upTo (c : UInt8) (l : List UInt8) : List UInt8 := l.takeWhile (· != c)
def past (c : UInt8) (l : List UInt8) : List UInt8 := (l.dropWhile (· != c)).drop 1

/-- The form of the digits of an amount. -/
def figOK (u : Nat) (d : List UInt8) : Bool :=
  decide (1 ≤ (upTo 46 d).length) && (upTo 46 d).all isDig && !(decide (1 < (upTo 46 d).length) && decide ((upTo 46 d).head? = some 48)) &&
    (d.contains 46 == decide (0 < u)) && decide ((past 46 d).length = u) && (past 46 d).all isDig
def figN (d : List UInt8) : Nat := numL (upTo 46 d ++ past 46 d)
def maxM : Nat := 1125899906842624
/-- What a text says: the amount and the currency, or an error. -/
def readA (unit : List UInt8 → Option Nat) (l : List UInt8) : Int × List UInt8 × Int :=
  match unit (past 32 l) with
  | none => (0, [], 12)
  | some u =>
    let num := upTo 32 l
    let minus := decide (num.head? = some 45)
    let d := if minus then num.tail else num
    if figOK u d = false then (0, [], 12)
    else if figN d = 0 then (if minus then (0, [], 12) else (0, past 32 l, 0))
    else if maxM < figN d then (0, [], 14)
    else (if minus then -(figN d : Int) else (figN d : Int), past 32 l, 0)

end Go.Proofs.YtnikhbdjlipcbaaDoor
