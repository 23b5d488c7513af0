/-
  Classes of bytes walked: the program's class, the reference's Mark. No condition. Leap years and the lengths of months walked: the program's and the reference's. Condition: years up to 10000. The parts of a date walked: the program's and the reference's. No condition. The text of a date walked: the program's and the reference's. No condition.
-/
import Derived.Test.YtnmiiimbjojcmaaDoorVd
import Derived.Test.YtnmiiimbjojcmaaDoorVa
import Derived.Test.YtnmiiimbjojcmaaDoorVm
import Derived.Test.YtnmiiimbjojcmaaDoorRows
import Derived.Test.YtnmiiimbjojcmaaDoorVc
import Derived.IntWalk
import Derived.Laws.Rows
import Derived.Test.YtnmiiimbjojcmaaDoorVf
namespace Go.Proofs.YtnmiiimbjojcmaaDoor
open Go.RowKit

def marksL : List UInt8 := [40, 41, 123, 125, 44, 59, 64, 43, 42]
/-- The class of a byte. -/
def classN (c : UInt8) : Int :=
  if c.toNat = 32 ∨ c.toNat = 9 ∨ c.toNat = 10 then 1 else if 48 ≤ c.toNat ∧ c.toNat ≤ 57 then 2 else if letB c = true then 3
  else if c.toNat = 95 ∨ c.toNat = 45 then 4 else if c ∈ marksL then 5 else if c.toNat = 34 then 6 else if c.toNat = 35 then 7 else 0
/-- Whether a byte is a mark. -/
def mkB (c : UInt8) : Bool := decide (c ∈ marksL) || decide (c.toNat = 45)
theorem marks_nat (c : UInt8) : c ∈ marksL ↔ c.toNat = 40 ∨ c.toNat = 41 ∨ c.toNat = 123 ∨ c.toNat = 125 ∨ c.toNat = 44 ∨ c.toNat = 59 ∨ c.toNat = 64 ∨ c.toNat = 43 ∨ c.toNat = 42 := by
  unfold marksL
  simp only [List.mem_cons, List.not_mem_nil, or_false, ← UInt8.toNat_inj]
  rfl
theorem idx_no {c : UInt8} (h : ¬ c ∈ marksL) : Lib.indexByte marksL c = -1 := by
  have h0 := Lib.indexByte_ge marksL c
  by_cases e : Lib.indexByte marksL c = -1
  · exact e
  · obtain ⟨o, ho⟩ : ∃ o : Nat, Lib.indexByte marksL c = o := ⟨(Lib.indexByte marksL c).toNat, by omega⟩
    exact absurd (List.mem_of_getElem? (Lib.indexByte_some ho).1) h
theorem bits_or (m : Nat) (h : m < 256) : bits BinOp.or IntKind.u8 (m : Int) 32 = ((if m.testBit 5 then m else m + 32 : Nat) : Int) := by
  have : ∀ m : Fin 256, bits BinOp.or IntKind.u8 ((m : Nat) : Int) 32 = ((if (m : Nat).testBit 5 then (m : Nat) else (m : Nat) + 32 : Nat) : Int) := by decide +kernel
  exact this ⟨m, h⟩
theorem bit5 (m : Nat) (h : m < 256) : m.testBit 5 = decide (m / 32 % 2 = 1) := by
  have : ∀ m : Fin 256, (m : Nat).testBit 5 = decide ((m : Nat) / 32 % 2 = 1) := by decide +kernel
  exact this ⟨m, h⟩
theorem bits_is {m : Nat} (h : m < 256) : bits BinOp.or IntKind.u8 (m : Int) 32 = ((if m / 32 % 2 = 1 then m else m + 32 : Nat) : Int) := by
  rw [bits_or m h, bit5 m h]; simp
theorem index_marks (c : UInt8) (w : World) : Calls Tryd.prog 40 #[.string ⟨#[40, 41, 123, 125, 44, 59, 64, 43, 42]⟩, .int .u8 (c.toNat : Int)] w fun e w' => e = .returned (.int .i64 (Lib.indexByte marksL c)) ∧ w = w' := by
  have := Tryd.strings_IndexByte ⟨#[40, 41, 123, 125, 44, 59, 64, 43, 42]⟩ (c.toNat : Int) w
  rw [show ((c.toNat : Int)).toNat.toUInt8 = c by simp] at this
  exact this.mono fun e w' ⟨a, b⟩ => ⟨a, b.symm⟩
theorem index_is {c : UInt8} {n : Int} (h : Lib.indexByte marksL c = n) : Hid (∀ W, Calls Tryd.prog 40 #[.string ⟨#[40, 41, 123, 125, 44, 59, 64, 43, 42]⟩, .int .u8 (c.toNat : Int)] W fun e w' => e = .returned (.int .i64 n) ∧ W = w') := fun W => h ▸ index_marks c W

set_option maxHeartbeats 1000000 in
set_option maxRecDepth 100000 in
theorem class_0 (c : UInt8) (w : World) (h1 : 0 ≤ c.toNat) (h2 : c.toNat ≤ 8) : Calls Tryd.prog 29 #[.int .u8 (c.toNat : Int)] w (RetI w (classN c)) := by
  have hv : classN c = 0 := by
    unfold classN letB
    simp only [marks_nat, decide_eq_true_eq]
    repeat' split
    all_goals omega
  rw [hv]
  have HI := index_is (c := c) (n := -1) (idx_no (by rw [marks_nat]; omega))
  have e32 : ((c.toNat : Int) == 32) = false := by simp <;> omega
  have e9 : ((c.toNat : Int) == 9) = false := by simp <;> omega
  have e10 : ((c.toNat : Int) == 10) = false := by simp <;> omega
  have e95 : ((c.toNat : Int) == 95) = false := by simp <;> omega
  have e45 : ((c.toNat : Int) == 45) = false := by simp <;> omega
  have e34 : ((c.toNat : Int) == 34) = false := by simp <;> omega
  have e35 : ((c.toNat : Int) == 35) = false := by simp <;> omega
  have p48 : (decide ((48 : Int) ≤ (c.toNat : Int))) = false := by simp <;> omega
  have p57 : (decide ((c.toNat : Int) ≤ 57)) = true := by simp <;> omega
  have hx : bits BinOp.or IntKind.u8 (c.toNat : Int) 32 = ((c.toNat + 32 : Nat) : Int) := by rw [bits_is (by omega), if_neg (by omega)]
  have p97 : (decide ((97 : Int) ≤ bits BinOp.or IntKind.u8 (c.toNat : Int) 32)) = false := by rw [hx]; simp <;> omega
  have p122 : (decide (bits BinOp.or IntKind.u8 (c.toNat : Int) 32 ≤ 122)) = true := by rw [hx]; simp <;> omega
  clear hx h1 h2 hv
  go_enter Tryd.func29, Tryd.ntmps29
  go_wp2_with fail
  refine (HI.out _).mono ?_
  rintro e w' ⟨rfl, rfl⟩
  go_wp2
  go_ret
  exact ⟨rfl, rfl⟩

set_option maxHeartbeats 1000000 in
set_option maxRecDepth 100000 in
theorem class_9 (c : UInt8) (w : World) (h1 : 9 ≤ c.toNat) (h2 : c.toNat ≤ 9) : Calls Tryd.prog 29 #[.int .u8 (c.toNat : Int)] w (RetI w (classN c)) := by
  have hv : classN c = 1 := by
    unfold classN letB
    simp only [marks_nat, decide_eq_true_eq]
    repeat' split
    all_goals omega
  rw [hv]
  have e32 : ((c.toNat : Int) == 32) = false := by simp <;> omega
  have e9 : ((c.toNat : Int) == 9) = true := by simp <;> omega
  have e10 : ((c.toNat : Int) == 10) = false := by simp <;> omega
  have e95 : ((c.toNat : Int) == 95) = false := by simp <;> omega
  have e45 : ((c.toNat : Int) == 45) = false := by simp <;> omega
  have e34 : ((c.toNat : Int) == 34) = false := by simp <;> omega
  have e35 : ((c.toNat : Int) == 35) = false := by simp <;> omega
  have p48 : (decide ((48 : Int) ≤ (c.toNat : Int))) = false := by simp <;> omega
  have p57 : (decide ((c.toNat : Int) ≤ 57)) = true := by simp <;> omega
  have hx : bits BinOp.or IntKind.u8 (c.toNat : Int) 32 = ((c.toNat + 32 : Nat) : Int) := by rw [bits_is (by omega), if_neg (by omega)]
  have p97 : (decide ((97 : Int) ≤ bits BinOp.or IntKind.u8 (c.toNat : Int) 32)) = false := by rw [hx]; simp <;> omega
  have p122 : (decide (bits BinOp.or IntKind.u8 (c.toNat : Int) 32 ≤ 122)) = true := by rw [hx]; simp <;> omega
  clear hx h1 h2 hv
  go_enter Tryd.func29, Tryd.ntmps29
  go_wp2
  go_ret
  exact ⟨rfl, rfl⟩

set_option maxHeartbeats 1000000 in
set_option maxRecDepth 100000 in
theorem class_10 (c : UInt8) (w : World) (h1 : 10 ≤ c.toNat) (h2 : c.toNat ≤ 10) : Calls Tryd.prog 29 #[.int .u8 (c.toNat : Int)] w (RetI w (classN c)) := by
  have hv : classN c = 1 := by
    unfold classN letB
    simp only [marks_nat, decide_eq_true_eq]
    repeat' split
    all_goals omega
  rw [hv]
  have e32 : ((c.toNat : Int) == 32) = false := by simp <;> omega
  have e9 : ((c.toNat : Int) == 9) = false := by simp <;> omega
  have e10 : ((c.toNat : Int) == 10) = true := by simp <;> omega
  have e95 : ((c.toNat : Int) == 95) = false := by simp <;> omega
  have e45 : ((c.toNat : Int) == 45) = false := by simp <;> omega
  have e34 : ((c.toNat : Int) == 34) = false := by simp <;> omega
  have e35 : ((c.toNat : Int) == 35) = false := by simp <;> omega
  have p48 : (decide ((48 : Int) ≤ (c.toNat : Int))) = false := by simp <;> omega
  have p57 : (decide ((c.toNat : Int) ≤ 57)) = true := by simp <;> omega
  have hx : bits BinOp.or IntKind.u8 (c.toNat : Int) 32 = ((c.toNat + 32 : Nat) : Int) := by rw [bits_is (by omega), if_neg (by omega)]
  have p97 : (decide ((97 : Int) ≤ bits BinOp.or IntKind.u8 (c.toNat : Int) 32)) = false := by rw [hx]; simp <;> omega
  have p122 : (decide (bits BinOp.or IntKind.u8 (c.toNat : Int) 32 ≤ 122)) = true := by rw [hx]; simp <;> omega
  clear hx h1 h2 hv
  go_enter Tryd.func29, Tryd.ntmps29
  go_wp2
  go_ret
  exact ⟨rfl, rfl⟩

set_option maxHeartbeats 1000000 in
set_option maxRecDepth 100000 in
theorem class_11 (c : UInt8) (w : World) (h1 : 11 ≤ c.toNat) (h2 : c.toNat ≤ 31) : Calls Tryd.prog 29 #[.int .u8 (c.toNat : Int)] w (RetI w (classN c)) := by
  have hv : classN c = 0 := by
    unfold classN letB
    simp only [marks_nat, decide_eq_true_eq]
    repeat' split
    all_goals omega
  rw [hv]
  have HI := index_is (c := c) (n := -1) (idx_no (by rw [marks_nat]; omega))
  have e32 : ((c.toNat : Int) == 32) = false := by simp <;> omega
  have e9 : ((c.toNat : Int) == 9) = false := by simp <;> omega
  have e10 : ((c.toNat : Int) == 10) = false := by simp <;> omega
  have e95 : ((c.toNat : Int) == 95) = false := by simp <;> omega
  have e45 : ((c.toNat : Int) == 45) = false := by simp <;> omega
  have e34 : ((c.toNat : Int) == 34) = false := by simp <;> omega
  have e35 : ((c.toNat : Int) == 35) = false := by simp <;> omega
  have p48 : (decide ((48 : Int) ≤ (c.toNat : Int))) = false := by simp <;> omega
  have p57 : (decide ((c.toNat : Int) ≤ 57)) = true := by simp <;> omega
  have hx : bits BinOp.or IntKind.u8 (c.toNat : Int) 32 = ((c.toNat + 32 : Nat) : Int) := by rw [bits_is (by omega), if_neg (by omega)]
  have p97 : (decide ((97 : Int) ≤ bits BinOp.or IntKind.u8 (c.toNat : Int) 32)) = false := by rw [hx]; simp <;> omega
  have p122 : (decide (bits BinOp.or IntKind.u8 (c.toNat : Int) 32 ≤ 122)) = true := by rw [hx]; simp <;> omega
  clear hx h1 h2 hv
  go_enter Tryd.func29, Tryd.ntmps29
  go_wp2_with fail
  refine (HI.out _).mono ?_
  rintro e w' ⟨rfl, rfl⟩
  go_wp2
  go_ret
  exact ⟨rfl, rfl⟩

set_option maxHeartbeats 1000000 in
set_option maxRecDepth 100000 in
theorem class_32 (c : UInt8) (w : World) (h1 : 32 ≤ c.toNat) (h2 : c.toNat ≤ 32) : Calls Tryd.prog 29 #[.int .u8 (c.toNat : Int)] w (RetI w (classN c)) := by
  have hv : classN c = 1 := by
    unfold classN letB
    simp only [marks_nat, decide_eq_true_eq]
    repeat' split
    all_goals omega
  rw [hv]
  have e32 : ((c.toNat : Int) == 32) = true := by simp <;> omega
  have e9 : ((c.toNat : Int) == 9) = false := by simp <;> omega
  have e10 : ((c.toNat : Int) == 10) = false := by simp <;> omega
  have e95 : ((c.toNat : Int) == 95) = false := by simp <;> omega
  have e45 : ((c.toNat : Int) == 45) = false := by simp <;> omega
  have e34 : ((c.toNat : Int) == 34) = false := by simp <;> omega
  have e35 : ((c.toNat : Int) == 35) = false := by simp <;> omega
  have p48 : (decide ((48 : Int) ≤ (c.toNat : Int))) = false := by simp <;> omega
  have p57 : (decide ((c.toNat : Int) ≤ 57)) = true := by simp <;> omega
  have hx : bits BinOp.or IntKind.u8 (c.toNat : Int) 32 = ((c.toNat : Nat) : Int) := by rw [bits_is (by omega), if_pos (by omega)]
  have p97 : (decide ((97 : Int) ≤ bits BinOp.or IntKind.u8 (c.toNat : Int) 32)) = false := by rw [hx]; simp <;> omega
  have p122 : (decide (bits BinOp.or IntKind.u8 (c.toNat : Int) 32 ≤ 122)) = true := by rw [hx]; simp <;> omega
  clear hx h1 h2 hv
  go_enter Tryd.func29, Tryd.ntmps29
  go_wp2
  go_ret
  exact ⟨rfl, rfl⟩

set_option maxHeartbeats 1000000 in
set_option maxRecDepth 100000 in
theorem class_33 (c : UInt8) (w : World) (h1 : 33 ≤ c.toNat) (h2 : c.toNat ≤ 33) : Calls Tryd.prog 29 #[.int .u8 (c.toNat : Int)] w (RetI w (classN c)) := by
  have hv : classN c = 0 := by
    unfold classN letB
    simp only [marks_nat, decide_eq_true_eq]
    repeat' split
    all_goals omega
  rw [hv]
  have HI := index_is (c := c) (n := -1) (idx_no (by rw [marks_nat]; omega))
  have e32 : ((c.toNat : Int) == 32) = false := by simp <;> omega
  have e9 : ((c.toNat : Int) == 9) = false := by simp <;> omega
  have e10 : ((c.toNat : Int) == 10) = false := by simp <;> omega
  have e95 : ((c.toNat : Int) == 95) = false := by simp <;> omega
  have e45 : ((c.toNat : Int) == 45) = false := by simp <;> omega
  have e34 : ((c.toNat : Int) == 34) = false := by simp <;> omega
  have e35 : ((c.toNat : Int) == 35) = false := by simp <;> omega
  have p48 : (decide ((48 : Int) ≤ (c.toNat : Int))) = false := by simp <;> omega
  have p57 : (decide ((c.toNat : Int) ≤ 57)) = true := by simp <;> omega
  have hx : bits BinOp.or IntKind.u8 (c.toNat : Int) 32 = ((c.toNat : Nat) : Int) := by rw [bits_is (by omega), if_pos (by omega)]
  have p97 : (decide ((97 : Int) ≤ bits BinOp.or IntKind.u8 (c.toNat : Int) 32)) = false := by rw [hx]; simp <;> omega
  have p122 : (decide (bits BinOp.or IntKind.u8 (c.toNat : Int) 32 ≤ 122)) = true := by rw [hx]; simp <;> omega
  clear hx h1 h2 hv
  go_enter Tryd.func29, Tryd.ntmps29
  go_wp2_with fail
  refine (HI.out _).mono ?_
  rintro e w' ⟨rfl, rfl⟩
  go_wp2
  go_ret
  exact ⟨rfl, rfl⟩

set_option maxHeartbeats 1000000 in
set_option maxRecDepth 100000 in
theorem class_34 (c : UInt8) (w : World) (h1 : 34 ≤ c.toNat) (h2 : c.toNat ≤ 34) : Calls Tryd.prog 29 #[.int .u8 (c.toNat : Int)] w (RetI w (classN c)) := by
  have hv : classN c = 6 := by
    unfold classN letB
    simp only [marks_nat, decide_eq_true_eq]
    repeat' split
    all_goals omega
  rw [hv]
  have HI := index_is (c := c) (n := -1) (idx_no (by rw [marks_nat]; omega))
  have e32 : ((c.toNat : Int) == 32) = false := by simp <;> omega
  have e9 : ((c.toNat : Int) == 9) = false := by simp <;> omega
  have e10 : ((c.toNat : Int) == 10) = false := by simp <;> omega
  have e95 : ((c.toNat : Int) == 95) = false := by simp <;> omega
  have e45 : ((c.toNat : Int) == 45) = false := by simp <;> omega
  have e34 : ((c.toNat : Int) == 34) = true := by simp <;> omega
  have e35 : ((c.toNat : Int) == 35) = false := by simp <;> omega
  have p48 : (decide ((48 : Int) ≤ (c.toNat : Int))) = false := by simp <;> omega
  have p57 : (decide ((c.toNat : Int) ≤ 57)) = true := by simp <;> omega
  have hx : bits BinOp.or IntKind.u8 (c.toNat : Int) 32 = ((c.toNat : Nat) : Int) := by rw [bits_is (by omega), if_pos (by omega)]
  have p97 : (decide ((97 : Int) ≤ bits BinOp.or IntKind.u8 (c.toNat : Int) 32)) = false := by rw [hx]; simp <;> omega
  have p122 : (decide (bits BinOp.or IntKind.u8 (c.toNat : Int) 32 ≤ 122)) = true := by rw [hx]; simp <;> omega
  clear hx h1 h2 hv
  go_enter Tryd.func29, Tryd.ntmps29
  go_wp2_with fail
  refine (HI.out _).mono ?_
  rintro e w' ⟨rfl, rfl⟩
  go_wp2
  go_ret
  exact ⟨rfl, rfl⟩

set_option maxHeartbeats 1000000 in
set_option maxRecDepth 100000 in
theorem class_35 (c : UInt8) (w : World) (h1 : 35 ≤ c.toNat) (h2 : c.toNat ≤ 35) : Calls Tryd.prog 29 #[.int .u8 (c.toNat : Int)] w (RetI w (classN c)) := by
  have hv : classN c = 7 := by
    unfold classN letB
    simp only [marks_nat, decide_eq_true_eq]
    repeat' split
    all_goals omega
  rw [hv]
  have HI := index_is (c := c) (n := -1) (idx_no (by rw [marks_nat]; omega))
  have e32 : ((c.toNat : Int) == 32) = false := by simp <;> omega
  have e9 : ((c.toNat : Int) == 9) = false := by simp <;> omega
  have e10 : ((c.toNat : Int) == 10) = false := by simp <;> omega
  have e95 : ((c.toNat : Int) == 95) = false := by simp <;> omega
  have e45 : ((c.toNat : Int) == 45) = false := by simp <;> omega
  have e34 : ((c.toNat : Int) == 34) = false := by simp <;> omega
  have e35 : ((c.toNat : Int) == 35) = true := by simp <;> omega
  have p48 : (decide ((48 : Int) ≤ (c.toNat : Int))) = false := by simp <;> omega
  have p57 : (decide ((c.toNat : Int) ≤ 57)) = true := by simp <;> omega
  have hx : bits BinOp.or IntKind.u8 (c.toNat : Int) 32 = ((c.toNat : Nat) : Int) := by rw [bits_is (by omega), if_pos (by omega)]
  have p97 : (decide ((97 : Int) ≤ bits BinOp.or IntKind.u8 (c.toNat : Int) 32)) = false := by rw [hx]; simp <;> omega
  have p122 : (decide (bits BinOp.or IntKind.u8 (c.toNat : Int) 32 ≤ 122)) = true := by rw [hx]; simp <;> omega
  clear hx h1 h2 hv
  go_enter Tryd.func29, Tryd.ntmps29
  go_wp2_with fail
  refine (HI.out _).mono ?_
  rintro e w' ⟨rfl, rfl⟩
  go_wp2
  go_ret
  exact ⟨rfl, rfl⟩

set_option maxHeartbeats 1000000 in
set_option maxRecDepth 100000 in
theorem class_36 (c : UInt8) (w : World) (h1 : 36 ≤ c.toNat) (h2 : c.toNat ≤ 39) : Calls Tryd.prog 29 #[.int .u8 (c.toNat : Int)] w (RetI w (classN c)) := by
  have hv : classN c = 0 := by
    unfold classN letB
    simp only [marks_nat, decide_eq_true_eq]
    repeat' split
    all_goals omega
  rw [hv]
  have HI := index_is (c := c) (n := -1) (idx_no (by rw [marks_nat]; omega))
  have e32 : ((c.toNat : Int) == 32) = false := by simp <;> omega
  have e9 : ((c.toNat : Int) == 9) = false := by simp <;> omega
  have e10 : ((c.toNat : Int) == 10) = false := by simp <;> omega
  have e95 : ((c.toNat : Int) == 95) = false := by simp <;> omega
  have e45 : ((c.toNat : Int) == 45) = false := by simp <;> omega
  have e34 : ((c.toNat : Int) == 34) = false := by simp <;> omega
  have e35 : ((c.toNat : Int) == 35) = false := by simp <;> omega
  have p48 : (decide ((48 : Int) ≤ (c.toNat : Int))) = false := by simp <;> omega
  have p57 : (decide ((c.toNat : Int) ≤ 57)) = true := by simp <;> omega
  have hx : bits BinOp.or IntKind.u8 (c.toNat : Int) 32 = ((c.toNat : Nat) : Int) := by rw [bits_is (by omega), if_pos (by omega)]
  have p97 : (decide ((97 : Int) ≤ bits BinOp.or IntKind.u8 (c.toNat : Int) 32)) = false := by rw [hx]; simp <;> omega
  have p122 : (decide (bits BinOp.or IntKind.u8 (c.toNat : Int) 32 ≤ 122)) = true := by rw [hx]; simp <;> omega
  clear hx h1 h2 hv
  go_enter Tryd.func29, Tryd.ntmps29
  go_wp2_with fail
  refine (HI.out _).mono ?_
  rintro e w' ⟨rfl, rfl⟩
  go_wp2
  go_ret
  exact ⟨rfl, rfl⟩

set_option maxHeartbeats 1000000 in
set_option maxRecDepth 100000 in
theorem class_40 (c : UInt8) (w : World) (h1 : 40 ≤ c.toNat) (h2 : c.toNat ≤ 40) : Calls Tryd.prog 29 #[.int .u8 (c.toNat : Int)] w (RetI w (classN c)) := by
  have hv : classN c = 5 := by
    unfold classN letB
    simp only [marks_nat, decide_eq_true_eq]
    repeat' split
    all_goals omega
  rw [hv]
  have HI := index_is (c := c) (n := 0) (by
    have : c = 40 := UInt8.toNat_inj.1 (by show c.toNat = 40; omega)
    rw [this]; rfl)
  have e32 : ((c.toNat : Int) == 32) = false := by simp <;> omega
  have e9 : ((c.toNat : Int) == 9) = false := by simp <;> omega
  have e10 : ((c.toNat : Int) == 10) = false := by simp <;> omega
  have e95 : ((c.toNat : Int) == 95) = false := by simp <;> omega
  have e45 : ((c.toNat : Int) == 45) = false := by simp <;> omega
  have e34 : ((c.toNat : Int) == 34) = false := by simp <;> omega
  have e35 : ((c.toNat : Int) == 35) = false := by simp <;> omega
  have p48 : (decide ((48 : Int) ≤ (c.toNat : Int))) = false := by simp <;> omega
  have p57 : (decide ((c.toNat : Int) ≤ 57)) = true := by simp <;> omega
  have hx : bits BinOp.or IntKind.u8 (c.toNat : Int) 32 = ((c.toNat : Nat) : Int) := by rw [bits_is (by omega), if_pos (by omega)]
  have p97 : (decide ((97 : Int) ≤ bits BinOp.or IntKind.u8 (c.toNat : Int) 32)) = false := by rw [hx]; simp <;> omega
  have p122 : (decide (bits BinOp.or IntKind.u8 (c.toNat : Int) 32 ≤ 122)) = true := by rw [hx]; simp <;> omega
  clear hx h1 h2 hv
  go_enter Tryd.func29, Tryd.ntmps29
  go_wp2_with fail
  refine (HI.out _).mono ?_
  rintro e w' ⟨rfl, rfl⟩
  go_wp2
  go_ret
  exact ⟨rfl, rfl⟩

set_option maxHeartbeats 1000000 in
set_option maxRecDepth 100000 in
theorem class_41 (c : UInt8) (w : World) (h1 : 41 ≤ c.toNat) (h2 : c.toNat ≤ 41) : Calls Tryd.prog 29 #[.int .u8 (c.toNat : Int)] w (RetI w (classN c)) := by
  have hv : classN c = 5 := by
    unfold classN letB
    simp only [marks_nat, decide_eq_true_eq]
    repeat' split
    all_goals omega
  rw [hv]
  have HI := index_is (c := c) (n := 1) (by
    have : c = 41 := UInt8.toNat_inj.1 (by show c.toNat = 41; omega)
    rw [this]; rfl)
  have e32 : ((c.toNat : Int) == 32) = false := by simp <;> omega
  have e9 : ((c.toNat : Int) == 9) = false := by simp <;> omega
  have e10 : ((c.toNat : Int) == 10) = false := by simp <;> omega
  have e95 : ((c.toNat : Int) == 95) = false := by simp <;> omega
  have e45 : ((c.toNat : Int) == 45) = false := by simp <;> omega
  have e34 : ((c.toNat : Int) == 34) = false := by simp <;> omega
  have e35 : ((c.toNat : Int) == 35) = false := by simp <;> omega
  have p48 : (decide ((48 : Int) ≤ (c.toNat : Int))) = false := by simp <;> omega
  have p57 : (decide ((c.toNat : Int) ≤ 57)) = true := by simp <;> omega
  have hx : bits BinOp.or IntKind.u8 (c.toNat : Int) 32 = ((c.toNat : Nat) : Int) := by rw [bits_is (by omega), if_pos (by omega)]
  have p97 : (decide ((97 : Int) ≤ bits BinOp.or IntKind.u8 (c.toNat : Int) 32)) = false := by rw [hx]; simp <;> omega
  have p122 : (decide (bits BinOp.or IntKind.u8 (c.toNat : Int) 32 ≤ 122)) = true := by rw [hx]; simp <;> omega
  clear hx h1 h2 hv
  go_enter Tryd.func29, Tryd.ntmps29
  go_wp2_with fail
  refine (HI.out _).mono ?_
  rintro e w' ⟨rfl, rfl⟩
  go_wp2
  go_ret
  exact ⟨rfl, rfl⟩

set_option maxHeartbeats 1000000 in
set_option maxRecDepth 100000 in
theorem class_42 (c : UInt8) (w : World) (h1 : 42 ≤ c.toNat) (h2 : c.toNat ≤ 42) : Calls Tryd.prog 29 #[.int .u8 (c.toNat : Int)] w (RetI w (classN c)) := by
  have hv : classN c = 5 := by
    unfold classN letB
    simp only [marks_nat, decide_eq_true_eq]
    repeat' split
    all_goals omega
  rw [hv]
  have HI := index_is (c := c) (n := 8) (by
    have : c = 42 := UInt8.toNat_inj.1 (by show c.toNat = 42; omega)
    rw [this]; rfl)
  have e32 : ((c.toNat : Int) == 32) = false := by simp <;> omega
  have e9 : ((c.toNat : Int) == 9) = false := by simp <;> omega
  have e10 : ((c.toNat : Int) == 10) = false := by simp <;> omega
  have e95 : ((c.toNat : Int) == 95) = false := by simp <;> omega
  have e45 : ((c.toNat : Int) == 45) = false := by simp <;> omega
  have e34 : ((c.toNat : Int) == 34) = false := by simp <;> omega
  have e35 : ((c.toNat : Int) == 35) = false := by simp <;> omega
  have p48 : (decide ((48 : Int) ≤ (c.toNat : Int))) = false := by simp <;> omega
  have p57 : (decide ((c.toNat : Int) ≤ 57)) = true := by simp <;> omega
  have hx : bits BinOp.or IntKind.u8 (c.toNat : Int) 32 = ((c.toNat : Nat) : Int) := by rw [bits_is (by omega), if_pos (by omega)]
  have p97 : (decide ((97 : Int) ≤ bits BinOp.or IntKind.u8 (c.toNat : Int) 32)) = false := by rw [hx]; simp <;> omega
  have p122 : (decide (bits BinOp.or IntKind.u8 (c.toNat : Int) 32 ≤ 122)) = true := by rw [hx]; simp <;> omega
  clear hx h1 h2 hv
  go_enter Tryd.func29, Tryd.ntmps29
  go_wp2_with fail
  refine (HI.out _).mono ?_
  rintro e w' ⟨rfl, rfl⟩
  go_wp2
  go_ret
  exact ⟨rfl, rfl⟩

set_option maxHeartbeats 1000000 in
set_option maxRecDepth 100000 in
theorem class_43 (c : UInt8) (w : World) (h1 : 43 ≤ c.toNat) (h2 : c.toNat ≤ 43) : Calls Tryd.prog 29 #[.int .u8 (c.toNat : Int)] w (RetI w (classN c)) := by
  have hv : classN c = 5 := by
    unfold classN letB
    simp only [marks_nat, decide_eq_true_eq]
    repeat' split
    all_goals omega
  rw [hv]
  have HI := index_is (c := c) (n := 7) (by
    have : c = 43 := UInt8.toNat_inj.1 (by show c.toNat = 43; omega)
    rw [this]; rfl)
  have e32 : ((c.toNat : Int) == 32) = false := by simp <;> omega
  have e9 : ((c.toNat : Int) == 9) = false := by simp <;> omega
  have e10 : ((c.toNat : Int) == 10) = false := by simp <;> omega
  have e95 : ((c.toNat : Int) == 95) = false := by simp <;> omega
  have e45 : ((c.toNat : Int) == 45) = false := by simp <;> omega
  have e34 : ((c.toNat : Int) == 34) = false := by simp <;> omega
  have e35 : ((c.toNat : Int) == 35) = false := by simp <;> omega
  have p48 : (decide ((48 : Int) ≤ (c.toNat : Int))) = false := by simp <;> omega
  have p57 : (decide ((c.toNat : Int) ≤ 57)) = true := by simp <;> omega
  have hx : bits BinOp.or IntKind.u8 (c.toNat : Int) 32 = ((c.toNat : Nat) : Int) := by rw [bits_is (by omega), if_pos (by omega)]
  have p97 : (decide ((97 : Int) ≤ bits BinOp.or IntKind.u8 (c.toNat : Int) 32)) = false := by rw [hx]; simp <;> omega
  have p122 : (decide (bits BinOp.or IntKind.u8 (c.toNat : Int) 32 ≤ 122)) = true := by rw [hx]; simp <;> omega
  clear hx h1 h2 hv
  go_enter Tryd.func29, Tryd.ntmps29
  go_wp2_with fail
  refine (HI.out _).mono ?_
  rintro e w' ⟨rfl, rfl⟩
  go_wp2
  go_ret
  exact ⟨rfl, rfl⟩

set_option maxHeartbeats 1000000 in
set_option maxRecDepth 100000 in
theorem class_44 (c : UInt8) (w : World) (h1 : 44 ≤ c.toNat) (h2 : c.toNat ≤ 44) : Calls Tryd.prog 29 #[.int .u8 (c.toNat : Int)] w (RetI w (classN c)) := by
  have hv : classN c = 5 := by
    unfold classN letB
    simp only [marks_nat, decide_eq_true_eq]
    repeat' split
    all_goals omega
  rw [hv]
  have HI := index_is (c := c) (n := 4) (by
    have : c = 44 := UInt8.toNat_inj.1 (by show c.toNat = 44; omega)
    rw [this]; rfl)
  have e32 : ((c.toNat : Int) == 32) = false := by simp <;> omega
  have e9 : ((c.toNat : Int) == 9) = false := by simp <;> omega
  have e10 : ((c.toNat : Int) == 10) = false := by simp <;> omega
  have e95 : ((c.toNat : Int) == 95) = false := by simp <;> omega
  have e45 : ((c.toNat : Int) == 45) = false := by simp <;> omega
  have e34 : ((c.toNat : Int) == 34) = false := by simp <;> omega
  have e35 : ((c.toNat : Int) == 35) = false := by simp <;> omega
  have p48 : (decide ((48 : Int) ≤ (c.toNat : Int))) = false := by simp <;> omega
  have p57 : (decide ((c.toNat : Int) ≤ 57)) = true := by simp <;> omega
  have hx : bits BinOp.or IntKind.u8 (c.toNat : Int) 32 = ((c.toNat : Nat) : Int) := by rw [bits_is (by omega), if_pos (by omega)]
  have p97 : (decide ((97 : Int) ≤ bits BinOp.or IntKind.u8 (c.toNat : Int) 32)) = false := by rw [hx]; simp <;> omega
  have p122 : (decide (bits BinOp.or IntKind.u8 (c.toNat : Int) 32 ≤ 122)) = true := by rw [hx]; simp <;> omega
  clear hx h1 h2 hv
  go_enter Tryd.func29, Tryd.ntmps29
  go_wp2_with fail
  refine (HI.out _).mono ?_
  rintro e w' ⟨rfl, rfl⟩
  go_wp2
  go_ret
  exact ⟨rfl, rfl⟩

set_option maxHeartbeats 1000000 in
set_option maxRecDepth 100000 in
theorem class_45 (c : UInt8) (w : World) (h1 : 45 ≤ c.toNat) (h2 : c.toNat ≤ 45) : Calls Tryd.prog 29 #[.int .u8 (c.toNat : Int)] w (RetI w (classN c)) := by
  have hv : classN c = 4 := by
    unfold classN letB
    simp only [marks_nat, decide_eq_true_eq]
    repeat' split
    all_goals omega
  rw [hv]
  have e32 : ((c.toNat : Int) == 32) = false := by simp <;> omega
  have e9 : ((c.toNat : Int) == 9) = false := by simp <;> omega
  have e10 : ((c.toNat : Int) == 10) = false := by simp <;> omega
  have e95 : ((c.toNat : Int) == 95) = false := by simp <;> omega
  have e45 : ((c.toNat : Int) == 45) = true := by simp <;> omega
  have e34 : ((c.toNat : Int) == 34) = false := by simp <;> omega
  have e35 : ((c.toNat : Int) == 35) = false := by simp <;> omega
  have p48 : (decide ((48 : Int) ≤ (c.toNat : Int))) = false := by simp <;> omega
  have p57 : (decide ((c.toNat : Int) ≤ 57)) = true := by simp <;> omega
  have hx : bits BinOp.or IntKind.u8 (c.toNat : Int) 32 = ((c.toNat : Nat) : Int) := by rw [bits_is (by omega), if_pos (by omega)]
  have p97 : (decide ((97 : Int) ≤ bits BinOp.or IntKind.u8 (c.toNat : Int) 32)) = false := by rw [hx]; simp <;> omega
  have p122 : (decide (bits BinOp.or IntKind.u8 (c.toNat : Int) 32 ≤ 122)) = true := by rw [hx]; simp <;> omega
  clear hx h1 h2 hv
  go_enter Tryd.func29, Tryd.ntmps29
  go_wp2
  go_ret
  exact ⟨rfl, rfl⟩

set_option maxHeartbeats 1000000 in
set_option maxRecDepth 100000 in
theorem class_46 (c : UInt8) (w : World) (h1 : 46 ≤ c.toNat) (h2 : c.toNat ≤ 47) : Calls Tryd.prog 29 #[.int .u8 (c.toNat : Int)] w (RetI w (classN c)) := by
  have hv : classN c = 0 := by
    unfold classN letB
    simp only [marks_nat, decide_eq_true_eq]
    repeat' split
    all_goals omega
  rw [hv]
  have HI := index_is (c := c) (n := -1) (idx_no (by rw [marks_nat]; omega))
  have e32 : ((c.toNat : Int) == 32) = false := by simp <;> omega
  have e9 : ((c.toNat : Int) == 9) = false := by simp <;> omega
  have e10 : ((c.toNat : Int) == 10) = false := by simp <;> omega
  have e95 : ((c.toNat : Int) == 95) = false := by simp <;> omega
  have e45 : ((c.toNat : Int) == 45) = false := by simp <;> omega
  have e34 : ((c.toNat : Int) == 34) = false := by simp <;> omega
  have e35 : ((c.toNat : Int) == 35) = false := by simp <;> omega
  have p48 : (decide ((48 : Int) ≤ (c.toNat : Int))) = false := by simp <;> omega
  have p57 : (decide ((c.toNat : Int) ≤ 57)) = true := by simp <;> omega
  have hx : bits BinOp.or IntKind.u8 (c.toNat : Int) 32 = ((c.toNat : Nat) : Int) := by rw [bits_is (by omega), if_pos (by omega)]
  have p97 : (decide ((97 : Int) ≤ bits BinOp.or IntKind.u8 (c.toNat : Int) 32)) = false := by rw [hx]; simp <;> omega
  have p122 : (decide (bits BinOp.or IntKind.u8 (c.toNat : Int) 32 ≤ 122)) = true := by rw [hx]; simp <;> omega
  clear hx h1 h2 hv
  go_enter Tryd.func29, Tryd.ntmps29
  go_wp2_with fail
  refine (HI.out _).mono ?_
  rintro e w' ⟨rfl, rfl⟩
  go_wp2
  go_ret
  exact ⟨rfl, rfl⟩

set_option maxHeartbeats 1000000 in
set_option maxRecDepth 100000 in
theorem class_48 (c : UInt8) (w : World) (h1 : 48 ≤ c.toNat) (h2 : c.toNat ≤ 57) : Calls Tryd.prog 29 #[.int .u8 (c.toNat : Int)] w (RetI w (classN c)) := by
  have hv : classN c = 2 := by
    unfold classN letB
    simp only [marks_nat, decide_eq_true_eq]
    repeat' split
    all_goals omega
  rw [hv]
  have e32 : ((c.toNat : Int) == 32) = false := by simp <;> omega
  have e9 : ((c.toNat : Int) == 9) = false := by simp <;> omega
  have e10 : ((c.toNat : Int) == 10) = false := by simp <;> omega
  have e95 : ((c.toNat : Int) == 95) = false := by simp <;> omega
  have e45 : ((c.toNat : Int) == 45) = false := by simp <;> omega
  have e34 : ((c.toNat : Int) == 34) = false := by simp <;> omega
  have e35 : ((c.toNat : Int) == 35) = false := by simp <;> omega
  have p48 : (decide ((48 : Int) ≤ (c.toNat : Int))) = true := by simp <;> omega
  have p57 : (decide ((c.toNat : Int) ≤ 57)) = true := by simp <;> omega
  have hx : bits BinOp.or IntKind.u8 (c.toNat : Int) 32 = ((c.toNat : Nat) : Int) := by rw [bits_is (by omega), if_pos (by omega)]
  have p97 : (decide ((97 : Int) ≤ bits BinOp.or IntKind.u8 (c.toNat : Int) 32)) = false := by rw [hx]; simp <;> omega
  have p122 : (decide (bits BinOp.or IntKind.u8 (c.toNat : Int) 32 ≤ 122)) = true := by rw [hx]; simp <;> omega
  clear hx h1 h2 hv
  go_enter Tryd.func29, Tryd.ntmps29
  go_wp2
  go_ret
  exact ⟨rfl, rfl⟩

set_option maxHeartbeats 1000000 in
set_option maxRecDepth 100000 in
theorem class_58 (c : UInt8) (w : World) (h1 : 58 ≤ c.toNat) (h2 : c.toNat ≤ 58) : Calls Tryd.prog 29 #[.int .u8 (c.toNat : Int)] w (RetI w (classN c)) := by
  have hv : classN c = 0 := by
    unfold classN letB
    simp only [marks_nat, decide_eq_true_eq]
    repeat' split
    all_goals omega
  rw [hv]
  have HI := index_is (c := c) (n := -1) (idx_no (by rw [marks_nat]; omega))
  have e32 : ((c.toNat : Int) == 32) = false := by simp <;> omega
  have e9 : ((c.toNat : Int) == 9) = false := by simp <;> omega
  have e10 : ((c.toNat : Int) == 10) = false := by simp <;> omega
  have e95 : ((c.toNat : Int) == 95) = false := by simp <;> omega
  have e45 : ((c.toNat : Int) == 45) = false := by simp <;> omega
  have e34 : ((c.toNat : Int) == 34) = false := by simp <;> omega
  have e35 : ((c.toNat : Int) == 35) = false := by simp <;> omega
  have p48 : (decide ((48 : Int) ≤ (c.toNat : Int))) = true := by simp <;> omega
  have p57 : (decide ((c.toNat : Int) ≤ 57)) = false := by simp <;> omega
  have hx : bits BinOp.or IntKind.u8 (c.toNat : Int) 32 = ((c.toNat : Nat) : Int) := by rw [bits_is (by omega), if_pos (by omega)]
  have p97 : (decide ((97 : Int) ≤ bits BinOp.or IntKind.u8 (c.toNat : Int) 32)) = false := by rw [hx]; simp <;> omega
  have p122 : (decide (bits BinOp.or IntKind.u8 (c.toNat : Int) 32 ≤ 122)) = true := by rw [hx]; simp <;> omega
  clear hx h1 h2 hv
  go_enter Tryd.func29, Tryd.ntmps29
  go_wp2_with fail
  refine (HI.out _).mono ?_
  rintro e w' ⟨rfl, rfl⟩
  go_wp2
  go_ret
  exact ⟨rfl, rfl⟩

set_option maxHeartbeats 1000000 in
set_option maxRecDepth 100000 in
theorem class_59 (c : UInt8) (w : World) (h1 : 59 ≤ c.toNat) (h2 : c.toNat ≤ 59) : Calls Tryd.prog 29 #[.int .u8 (c.toNat : Int)] w (RetI w (classN c)) := by
  have hv : classN c = 5 := by
    unfold classN letB
    simp only [marks_nat, decide_eq_true_eq]
    repeat' split
    all_goals omega
  rw [hv]
  have HI := index_is (c := c) (n := 5) (by
    have : c = 59 := UInt8.toNat_inj.1 (by show c.toNat = 59; omega)
    rw [this]; rfl)
  have e32 : ((c.toNat : Int) == 32) = false := by simp <;> omega
  have e9 : ((c.toNat : Int) == 9) = false := by simp <;> omega
  have e10 : ((c.toNat : Int) == 10) = false := by simp <;> omega
  have e95 : ((c.toNat : Int) == 95) = false := by simp <;> omega
  have e45 : ((c.toNat : Int) == 45) = false := by simp <;> omega
  have e34 : ((c.toNat : Int) == 34) = false := by simp <;> omega
  have e35 : ((c.toNat : Int) == 35) = false := by simp <;> omega
  have p48 : (decide ((48 : Int) ≤ (c.toNat : Int))) = true := by simp <;> omega
  have p57 : (decide ((c.toNat : Int) ≤ 57)) = false := by simp <;> omega
  have hx : bits BinOp.or IntKind.u8 (c.toNat : Int) 32 = ((c.toNat : Nat) : Int) := by rw [bits_is (by omega), if_pos (by omega)]
  have p97 : (decide ((97 : Int) ≤ bits BinOp.or IntKind.u8 (c.toNat : Int) 32)) = false := by rw [hx]; simp <;> omega
  have p122 : (decide (bits BinOp.or IntKind.u8 (c.toNat : Int) 32 ≤ 122)) = true := by rw [hx]; simp <;> omega
  clear hx h1 h2 hv
  go_enter Tryd.func29, Tryd.ntmps29
  go_wp2_with fail
  refine (HI.out _).mono ?_
  rintro e w' ⟨rfl, rfl⟩
  go_wp2
  go_ret
  exact ⟨rfl, rfl⟩

set_option maxHeartbeats 1000000 in
set_option maxRecDepth 100000 in
theorem class_60 (c : UInt8) (w : World) (h1 : 60 ≤ c.toNat) (h2 : c.toNat ≤ 63) : Calls Tryd.prog 29 #[.int .u8 (c.toNat : Int)] w (RetI w (classN c)) := by
  have hv : classN c = 0 := by
    unfold classN letB
    simp only [marks_nat, decide_eq_true_eq]
    repeat' split
    all_goals omega
  rw [hv]
  have HI := index_is (c := c) (n := -1) (idx_no (by rw [marks_nat]; omega))
  have e32 : ((c.toNat : Int) == 32) = false := by simp <;> omega
  have e9 : ((c.toNat : Int) == 9) = false := by simp <;> omega
  have e10 : ((c.toNat : Int) == 10) = false := by simp <;> omega
  have e95 : ((c.toNat : Int) == 95) = false := by simp <;> omega
  have e45 : ((c.toNat : Int) == 45) = false := by simp <;> omega
  have e34 : ((c.toNat : Int) == 34) = false := by simp <;> omega
  have e35 : ((c.toNat : Int) == 35) = false := by simp <;> omega
  have p48 : (decide ((48 : Int) ≤ (c.toNat : Int))) = true := by simp <;> omega
  have p57 : (decide ((c.toNat : Int) ≤ 57)) = false := by simp <;> omega
  have hx : bits BinOp.or IntKind.u8 (c.toNat : Int) 32 = ((c.toNat : Nat) : Int) := by rw [bits_is (by omega), if_pos (by omega)]
  have p97 : (decide ((97 : Int) ≤ bits BinOp.or IntKind.u8 (c.toNat : Int) 32)) = false := by rw [hx]; simp <;> omega
  have p122 : (decide (bits BinOp.or IntKind.u8 (c.toNat : Int) 32 ≤ 122)) = true := by rw [hx]; simp <;> omega
  clear hx h1 h2 hv
  go_enter Tryd.func29, Tryd.ntmps29
  go_wp2_with fail
  refine (HI.out _).mono ?_
  rintro e w' ⟨rfl, rfl⟩
  go_wp2
  go_ret
  exact ⟨rfl, rfl⟩

set_option maxHeartbeats 1000000 in
set_option maxRecDepth 100000 in
theorem class_64 (c : UInt8) (w : World) (h1 : 64 ≤ c.toNat) (h2 : c.toNat ≤ 64) : Calls Tryd.prog 29 #[.int .u8 (c.toNat : Int)] w (RetI w (classN c)) := by
  have hv : classN c = 5 := by
    unfold classN letB
    simp only [marks_nat, decide_eq_true_eq]
    repeat' split
    all_goals omega
  rw [hv]
  have HI := index_is (c := c) (n := 6) (by
    have : c = 64 := UInt8.toNat_inj.1 (by show c.toNat = 64; omega)
    rw [this]; rfl)
  have e32 : ((c.toNat : Int) == 32) = false := by simp <;> omega
  have e9 : ((c.toNat : Int) == 9) = false := by simp <;> omega
  have e10 : ((c.toNat : Int) == 10) = false := by simp <;> omega
  have e95 : ((c.toNat : Int) == 95) = false := by simp <;> omega
  have e45 : ((c.toNat : Int) == 45) = false := by simp <;> omega
  have e34 : ((c.toNat : Int) == 34) = false := by simp <;> omega
  have e35 : ((c.toNat : Int) == 35) = false := by simp <;> omega
  have p48 : (decide ((48 : Int) ≤ (c.toNat : Int))) = true := by simp <;> omega
  have p57 : (decide ((c.toNat : Int) ≤ 57)) = false := by simp <;> omega
  have hx : bits BinOp.or IntKind.u8 (c.toNat : Int) 32 = ((c.toNat + 32 : Nat) : Int) := by rw [bits_is (by omega), if_neg (by omega)]
  have p97 : (decide ((97 : Int) ≤ bits BinOp.or IntKind.u8 (c.toNat : Int) 32)) = false := by rw [hx]; simp <;> omega
  have p122 : (decide (bits BinOp.or IntKind.u8 (c.toNat : Int) 32 ≤ 122)) = true := by rw [hx]; simp <;> omega
  clear hx h1 h2 hv
  go_enter Tryd.func29, Tryd.ntmps29
  go_wp2_with fail
  refine (HI.out _).mono ?_
  rintro e w' ⟨rfl, rfl⟩
  go_wp2
  go_ret
  exact ⟨rfl, rfl⟩

set_option maxHeartbeats 1000000 in
set_option maxRecDepth 100000 in
theorem class_65 (c : UInt8) (w : World) (h1 : 65 ≤ c.toNat) (h2 : c.toNat ≤ 90) : Calls Tryd.prog 29 #[.int .u8 (c.toNat : Int)] w (RetI w (classN c)) := by
  have hv : classN c = 3 := by
    unfold classN letB
    simp only [marks_nat, decide_eq_true_eq]
    repeat' split
    all_goals omega
  rw [hv]
  have e32 : ((c.toNat : Int) == 32) = false := by simp <;> omega
  have e9 : ((c.toNat : Int) == 9) = false := by simp <;> omega
  have e10 : ((c.toNat : Int) == 10) = false := by simp <;> omega
  have e95 : ((c.toNat : Int) == 95) = false := by simp <;> omega
  have e45 : ((c.toNat : Int) == 45) = false := by simp <;> omega
  have e34 : ((c.toNat : Int) == 34) = false := by simp <;> omega
  have e35 : ((c.toNat : Int) == 35) = false := by simp <;> omega
  have p48 : (decide ((48 : Int) ≤ (c.toNat : Int))) = true := by simp <;> omega
  have p57 : (decide ((c.toNat : Int) ≤ 57)) = false := by simp <;> omega
  have hx : bits BinOp.or IntKind.u8 (c.toNat : Int) 32 = ((c.toNat + 32 : Nat) : Int) := by rw [bits_is (by omega), if_neg (by omega)]
  have p97 : (decide ((97 : Int) ≤ bits BinOp.or IntKind.u8 (c.toNat : Int) 32)) = true := by rw [hx]; simp <;> omega
  have p122 : (decide (bits BinOp.or IntKind.u8 (c.toNat : Int) 32 ≤ 122)) = true := by rw [hx]; simp <;> omega
  clear hx h1 h2 hv
  go_enter Tryd.func29, Tryd.ntmps29
  go_wp2
  go_ret
  exact ⟨rfl, rfl⟩

set_option maxHeartbeats 1000000 in
set_option maxRecDepth 100000 in
theorem class_91 (c : UInt8) (w : World) (h1 : 91 ≤ c.toNat) (h2 : c.toNat ≤ 94) : Calls Tryd.prog 29 #[.int .u8 (c.toNat : Int)] w (RetI w (classN c)) := by
  have hv : classN c = 0 := by
    unfold classN letB
    simp only [marks_nat, decide_eq_true_eq]
    repeat' split
    all_goals omega
  rw [hv]
  have HI := index_is (c := c) (n := -1) (idx_no (by rw [marks_nat]; omega))
  have e32 : ((c.toNat : Int) == 32) = false := by simp <;> omega
  have e9 : ((c.toNat : Int) == 9) = false := by simp <;> omega
  have e10 : ((c.toNat : Int) == 10) = false := by simp <;> omega
  have e95 : ((c.toNat : Int) == 95) = false := by simp <;> omega
  have e45 : ((c.toNat : Int) == 45) = false := by simp <;> omega
  have e34 : ((c.toNat : Int) == 34) = false := by simp <;> omega
  have e35 : ((c.toNat : Int) == 35) = false := by simp <;> omega
  have p48 : (decide ((48 : Int) ≤ (c.toNat : Int))) = true := by simp <;> omega
  have p57 : (decide ((c.toNat : Int) ≤ 57)) = false := by simp <;> omega
  have hx : bits BinOp.or IntKind.u8 (c.toNat : Int) 32 = ((c.toNat + 32 : Nat) : Int) := by rw [bits_is (by omega), if_neg (by omega)]
  have p97 : (decide ((97 : Int) ≤ bits BinOp.or IntKind.u8 (c.toNat : Int) 32)) = true := by rw [hx]; simp <;> omega
  have p122 : (decide (bits BinOp.or IntKind.u8 (c.toNat : Int) 32 ≤ 122)) = false := by rw [hx]; simp <;> omega
  clear hx h1 h2 hv
  go_enter Tryd.func29, Tryd.ntmps29
  go_wp2_with fail
  refine (HI.out _).mono ?_
  rintro e w' ⟨rfl, rfl⟩
  go_wp2
  go_ret
  exact ⟨rfl, rfl⟩

set_option maxHeartbeats 1000000 in
set_option maxRecDepth 100000 in
theorem class_95 (c : UInt8) (w : World) (h1 : 95 ≤ c.toNat) (h2 : c.toNat ≤ 95) : Calls Tryd.prog 29 #[.int .u8 (c.toNat : Int)] w (RetI w (classN c)) := by
  have hv : classN c = 4 := by
    unfold classN letB
    simp only [marks_nat, decide_eq_true_eq]
    repeat' split
    all_goals omega
  rw [hv]
  have e32 : ((c.toNat : Int) == 32) = false := by simp <;> omega
  have e9 : ((c.toNat : Int) == 9) = false := by simp <;> omega
  have e10 : ((c.toNat : Int) == 10) = false := by simp <;> omega
  have e95 : ((c.toNat : Int) == 95) = true := by simp <;> omega
  have e45 : ((c.toNat : Int) == 45) = false := by simp <;> omega
  have e34 : ((c.toNat : Int) == 34) = false := by simp <;> omega
  have e35 : ((c.toNat : Int) == 35) = false := by simp <;> omega
  have p48 : (decide ((48 : Int) ≤ (c.toNat : Int))) = true := by simp <;> omega
  have p57 : (decide ((c.toNat : Int) ≤ 57)) = false := by simp <;> omega
  have hx : bits BinOp.or IntKind.u8 (c.toNat : Int) 32 = ((c.toNat + 32 : Nat) : Int) := by rw [bits_is (by omega), if_neg (by omega)]
  have p97 : (decide ((97 : Int) ≤ bits BinOp.or IntKind.u8 (c.toNat : Int) 32)) = true := by rw [hx]; simp <;> omega
  have p122 : (decide (bits BinOp.or IntKind.u8 (c.toNat : Int) 32 ≤ 122)) = false := by rw [hx]; simp <;> omega
  clear hx h1 h2 hv
  go_enter Tryd.func29, Tryd.ntmps29
  go_wp2
  go_ret
  exact ⟨rfl, rfl⟩

set_option maxHeartbeats 1000000 in
set_option maxRecDepth 100000 in
theorem class_96 (c : UInt8) (w : World) (h1 : 96 ≤ c.toNat) (h2 : c.toNat ≤ 96) : Calls Tryd.prog 29 #[.int .u8 (c.toNat : Int)] w (RetI w (classN c)) := by
  have hv : classN c = 0 := by
    unfold classN letB
    simp only [marks_nat, decide_eq_true_eq]
    repeat' split
    all_goals omega
  rw [hv]
  have HI := index_is (c := c) (n := -1) (idx_no (by rw [marks_nat]; omega))
  have e32 : ((c.toNat : Int) == 32) = false := by simp <;> omega
  have e9 : ((c.toNat : Int) == 9) = false := by simp <;> omega
  have e10 : ((c.toNat : Int) == 10) = false := by simp <;> omega
  have e95 : ((c.toNat : Int) == 95) = false := by simp <;> omega
  have e45 : ((c.toNat : Int) == 45) = false := by simp <;> omega
  have e34 : ((c.toNat : Int) == 34) = false := by simp <;> omega
  have e35 : ((c.toNat : Int) == 35) = false := by simp <;> omega
  have p48 : (decide ((48 : Int) ≤ (c.toNat : Int))) = true := by simp <;> omega
  have p57 : (decide ((c.toNat : Int) ≤ 57)) = false := by simp <;> omega
  have hx : bits BinOp.or IntKind.u8 (c.toNat : Int) 32 = ((c.toNat : Nat) : Int) := by rw [bits_is (by omega), if_pos (by omega)]
  have p97 : (decide ((97 : Int) ≤ bits BinOp.or IntKind.u8 (c.toNat : Int) 32)) = false := by rw [hx]; simp <;> omega
  have p122 : (decide (bits BinOp.or IntKind.u8 (c.toNat : Int) 32 ≤ 122)) = true := by rw [hx]; simp <;> omega
  clear hx h1 h2 hv
  go_enter Tryd.func29, Tryd.ntmps29
  go_wp2_with fail
  refine (HI.out _).mono ?_
  rintro e w' ⟨rfl, rfl⟩
  go_wp2
  go_ret
  exact ⟨rfl, rfl⟩

set_option maxHeartbeats 1000000 in
set_option maxRecDepth 100000 in
theorem class_97 (c : UInt8) (w : World) (h1 : 97 ≤ c.toNat) (h2 : c.toNat ≤ 122) : Calls Tryd.prog 29 #[.int .u8 (c.toNat : Int)] w (RetI w (classN c)) := by
  have hv : classN c = 3 := by
    unfold classN letB
    simp only [marks_nat, decide_eq_true_eq]
    repeat' split
    all_goals omega
  rw [hv]
  have e32 : ((c.toNat : Int) == 32) = false := by simp <;> omega
  have e9 : ((c.toNat : Int) == 9) = false := by simp <;> omega
  have e10 : ((c.toNat : Int) == 10) = false := by simp <;> omega
  have e95 : ((c.toNat : Int) == 95) = false := by simp <;> omega
  have e45 : ((c.toNat : Int) == 45) = false := by simp <;> omega
  have e34 : ((c.toNat : Int) == 34) = false := by simp <;> omega
  have e35 : ((c.toNat : Int) == 35) = false := by simp <;> omega
  have p48 : (decide ((48 : Int) ≤ (c.toNat : Int))) = true := by simp <;> omega
  have p57 : (decide ((c.toNat : Int) ≤ 57)) = false := by simp <;> omega
  have hx : bits BinOp.or IntKind.u8 (c.toNat : Int) 32 = ((c.toNat : Nat) : Int) := by rw [bits_is (by omega), if_pos (by omega)]
  have p97 : (decide ((97 : Int) ≤ bits BinOp.or IntKind.u8 (c.toNat : Int) 32)) = true := by rw [hx]; simp <;> omega
  have p122 : (decide (bits BinOp.or IntKind.u8 (c.toNat : Int) 32 ≤ 122)) = true := by rw [hx]; simp <;> omega
  clear hx h1 h2 hv
  go_enter Tryd.func29, Tryd.ntmps29
  go_wp2
  go_ret
  exact ⟨rfl, rfl⟩

set_option maxHeartbeats 1000000 in
set_option maxRecDepth 100000 in
theorem class_123 (c : UInt8) (w : World) (h1 : 123 ≤ c.toNat) (h2 : c.toNat ≤ 123) : Calls Tryd.prog 29 #[.int .u8 (c.toNat : Int)] w (RetI w (classN c)) := by
  have hv : classN c = 5 := by
    unfold classN letB
    simp only [marks_nat, decide_eq_true_eq]
    repeat' split
    all_goals omega
  rw [hv]
  have HI := index_is (c := c) (n := 2) (by
    have : c = 123 := UInt8.toNat_inj.1 (by show c.toNat = 123; omega)
    rw [this]; rfl)
  have e32 : ((c.toNat : Int) == 32) = false := by simp <;> omega
  have e9 : ((c.toNat : Int) == 9) = false := by simp <;> omega
  have e10 : ((c.toNat : Int) == 10) = false := by simp <;> omega
  have e95 : ((c.toNat : Int) == 95) = false := by simp <;> omega
  have e45 : ((c.toNat : Int) == 45) = false := by simp <;> omega
  have e34 : ((c.toNat : Int) == 34) = false := by simp <;> omega
  have e35 : ((c.toNat : Int) == 35) = false := by simp <;> omega
  have p48 : (decide ((48 : Int) ≤ (c.toNat : Int))) = true := by simp <;> omega
  have p57 : (decide ((c.toNat : Int) ≤ 57)) = false := by simp <;> omega
  have hx : bits BinOp.or IntKind.u8 (c.toNat : Int) 32 = ((c.toNat : Nat) : Int) := by rw [bits_is (by omega), if_pos (by omega)]
  have p97 : (decide ((97 : Int) ≤ bits BinOp.or IntKind.u8 (c.toNat : Int) 32)) = true := by rw [hx]; simp <;> omega
  have p122 : (decide (bits BinOp.or IntKind.u8 (c.toNat : Int) 32 ≤ 122)) = false := by rw [hx]; simp <;> omega
  clear hx h1 h2 hv
  go_enter Tryd.func29, Tryd.ntmps29
  go_wp2_with fail
  refine (HI.out _).mono ?_
  rintro e w' ⟨rfl, rfl⟩
  go_wp2
  go_ret
  exact ⟨rfl, rfl⟩

set_option maxHeartbeats 1000000 in
set_option maxRecDepth 100000 in
theorem class_124 (c : UInt8) (w : World) (h1 : 124 ≤ c.toNat) (h2 : c.toNat ≤ 124) : Calls Tryd.prog 29 #[.int .u8 (c.toNat : Int)] w (RetI w (classN c)) := by
  have hv : classN c = 0 := by
    unfold classN letB
    simp only [marks_nat, decide_eq_true_eq]
    repeat' split
    all_goals omega
  rw [hv]
  have HI := index_is (c := c) (n := -1) (idx_no (by rw [marks_nat]; omega))
  have e32 : ((c.toNat : Int) == 32) = false := by simp <;> omega
  have e9 : ((c.toNat : Int) == 9) = false := by simp <;> omega
  have e10 : ((c.toNat : Int) == 10) = false := by simp <;> omega
  have e95 : ((c.toNat : Int) == 95) = false := by simp <;> omega
  have e45 : ((c.toNat : Int) == 45) = false := by simp <;> omega
  have e34 : ((c.toNat : Int) == 34) = false := by simp <;> omega
  have e35 : ((c.toNat : Int) == 35) = false := by simp <;> omega
  have p48 : (decide ((48 : Int) ≤ (c.toNat : Int))) = true := by simp <;> omega
  have p57 : (decide ((c.toNat : Int) ≤ 57)) = false := by simp <;> omega
  have hx : bits BinOp.or IntKind.u8 (c.toNat : Int) 32 = ((c.toNat : Nat) : Int) := by rw [bits_is (by omega), if_pos (by omega)]
  have p97 : (decide ((97 : Int) ≤ bits BinOp.or IntKind.u8 (c.toNat : Int) 32)) = true := by rw [hx]; simp <;> omega
  have p122 : (decide (bits BinOp.or IntKind.u8 (c.toNat : Int) 32 ≤ 122)) = false := by rw [hx]; simp <;> omega
  clear hx h1 h2 hv
  go_enter Tryd.func29, Tryd.ntmps29
  go_wp2_with fail
  refine (HI.out _).mono ?_
  rintro e w' ⟨rfl, rfl⟩
  go_wp2
  go_ret
  exact ⟨rfl, rfl⟩

set_option maxHeartbeats 1000000 in
set_option maxRecDepth 100000 in
theorem class_125 (c : UInt8) (w : World) (h1 : 125 ≤ c.toNat) (h2 : c.toNat ≤ 125) : Calls Tryd.prog 29 #[.int .u8 (c.toNat : Int)] w (RetI w (classN c)) := by
  have hv : classN c = 5 := by
    unfold classN letB
    simp only [marks_nat, decide_eq_true_eq]
    repeat' split
    all_goals omega
  rw [hv]
  have HI := index_is (c := c) (n := 3) (by
    have : c = 125 := UInt8.toNat_inj.1 (by show c.toNat = 125; omega)
    rw [this]; rfl)
  have e32 : ((c.toNat : Int) == 32) = false := by simp <;> omega
  have e9 : ((c.toNat : Int) == 9) = false := by simp <;> omega
  have e10 : ((c.toNat : Int) == 10) = false := by simp <;> omega
  have e95 : ((c.toNat : Int) == 95) = false := by simp <;> omega
  have e45 : ((c.toNat : Int) == 45) = false := by simp <;> omega
  have e34 : ((c.toNat : Int) == 34) = false := by simp <;> omega
  have e35 : ((c.toNat : Int) == 35) = false := by simp <;> omega
  have p48 : (decide ((48 : Int) ≤ (c.toNat : Int))) = true := by simp <;> omega
  have p57 : (decide ((c.toNat : Int) ≤ 57)) = false := by simp <;> omega
  have hx : bits BinOp.or IntKind.u8 (c.toNat : Int) 32 = ((c.toNat : Nat) : Int) := by rw [bits_is (by omega), if_pos (by omega)]
  have p97 : (decide ((97 : Int) ≤ bits BinOp.or IntKind.u8 (c.toNat : Int) 32)) = true := by rw [hx]; simp <;> omega
  have p122 : (decide (bits BinOp.or IntKind.u8 (c.toNat : Int) 32 ≤ 122)) = false := by rw [hx]; simp <;> omega
  clear hx h1 h2 hv
  go_enter Tryd.func29, Tryd.ntmps29
  go_wp2_with fail
  refine (HI.out _).mono ?_
  rintro e w' ⟨rfl, rfl⟩
  go_wp2
  go_ret
  exact ⟨rfl, rfl⟩

set_option maxHeartbeats 1000000 in
set_option maxRecDepth 100000 in
theorem class_126 (c : UInt8) (w : World) (h1 : 126 ≤ c.toNat) (h2 : c.toNat ≤ 127) : Calls Tryd.prog 29 #[.int .u8 (c.toNat : Int)] w (RetI w (classN c)) := by
  have hv : classN c = 0 := by
    unfold classN letB
    simp only [marks_nat, decide_eq_true_eq]
    repeat' split
    all_goals omega
  rw [hv]
  have HI := index_is (c := c) (n := -1) (idx_no (by rw [marks_nat]; omega))
  have e32 : ((c.toNat : Int) == 32) = false := by simp <;> omega
  have e9 : ((c.toNat : Int) == 9) = false := by simp <;> omega
  have e10 : ((c.toNat : Int) == 10) = false := by simp <;> omega
  have e95 : ((c.toNat : Int) == 95) = false := by simp <;> omega
  have e45 : ((c.toNat : Int) == 45) = false := by simp <;> omega
  have e34 : ((c.toNat : Int) == 34) = false := by simp <;> omega
  have e35 : ((c.toNat : Int) == 35) = false := by simp <;> omega
  have p48 : (decide ((48 : Int) ≤ (c.toNat : Int))) = true := by simp <;> omega
  have p57 : (decide ((c.toNat : Int) ≤ 57)) = false := by simp <;> omega
  have hx : bits BinOp.or IntKind.u8 (c.toNat : Int) 32 = ((c.toNat : Nat) : Int) := by rw [bits_is (by omega), if_pos (by omega)]
  have p97 : (decide ((97 : Int) ≤ bits BinOp.or IntKind.u8 (c.toNat : Int) 32)) = true := by rw [hx]; simp <;> omega
  have p122 : (decide (bits BinOp.or IntKind.u8 (c.toNat : Int) 32 ≤ 122)) = false := by rw [hx]; simp <;> omega
  clear hx h1 h2 hv
  go_enter Tryd.func29, Tryd.ntmps29
  go_wp2_with fail
  refine (HI.out _).mono ?_
  rintro e w' ⟨rfl, rfl⟩
  go_wp2
  go_ret
  exact ⟨rfl, rfl⟩

set_option maxHeartbeats 1000000 in
set_option maxRecDepth 100000 in
theorem class_128 (c : UInt8) (w : World) (h1 : 128 ≤ c.toNat) (h2 : c.toNat ≤ 159) : Calls Tryd.prog 29 #[.int .u8 (c.toNat : Int)] w (RetI w (classN c)) := by
  have hv : classN c = 0 := by
    unfold classN letB
    simp only [marks_nat, decide_eq_true_eq]
    repeat' split
    all_goals omega
  rw [hv]
  have HI := index_is (c := c) (n := -1) (idx_no (by rw [marks_nat]; omega))
  have e32 : ((c.toNat : Int) == 32) = false := by simp <;> omega
  have e9 : ((c.toNat : Int) == 9) = false := by simp <;> omega
  have e10 : ((c.toNat : Int) == 10) = false := by simp <;> omega
  have e95 : ((c.toNat : Int) == 95) = false := by simp <;> omega
  have e45 : ((c.toNat : Int) == 45) = false := by simp <;> omega
  have e34 : ((c.toNat : Int) == 34) = false := by simp <;> omega
  have e35 : ((c.toNat : Int) == 35) = false := by simp <;> omega
  have p48 : (decide ((48 : Int) ≤ (c.toNat : Int))) = true := by simp <;> omega
  have p57 : (decide ((c.toNat : Int) ≤ 57)) = false := by simp <;> omega
  have hx : bits BinOp.or IntKind.u8 (c.toNat : Int) 32 = ((c.toNat + 32 : Nat) : Int) := by rw [bits_is (by omega), if_neg (by omega)]
  have p97 : (decide ((97 : Int) ≤ bits BinOp.or IntKind.u8 (c.toNat : Int) 32)) = true := by rw [hx]; simp <;> omega
  have p122 : (decide (bits BinOp.or IntKind.u8 (c.toNat : Int) 32 ≤ 122)) = false := by rw [hx]; simp <;> omega
  clear hx h1 h2 hv
  go_enter Tryd.func29, Tryd.ntmps29
  go_wp2_with fail
  refine (HI.out _).mono ?_
  rintro e w' ⟨rfl, rfl⟩
  go_wp2
  go_ret
  exact ⟨rfl, rfl⟩

set_option maxHeartbeats 1000000 in
set_option maxRecDepth 100000 in
theorem class_160 (c : UInt8) (w : World) (h1 : 160 ≤ c.toNat) (h2 : c.toNat ≤ 191) : Calls Tryd.prog 29 #[.int .u8 (c.toNat : Int)] w (RetI w (classN c)) := by
  have hv : classN c = 0 := by
    unfold classN letB
    simp only [marks_nat, decide_eq_true_eq]
    repeat' split
    all_goals omega
  rw [hv]
  have HI := index_is (c := c) (n := -1) (idx_no (by rw [marks_nat]; omega))
  have e32 : ((c.toNat : Int) == 32) = false := by simp <;> omega
  have e9 : ((c.toNat : Int) == 9) = false := by simp <;> omega
  have e10 : ((c.toNat : Int) == 10) = false := by simp <;> omega
  have e95 : ((c.toNat : Int) == 95) = false := by simp <;> omega
  have e45 : ((c.toNat : Int) == 45) = false := by simp <;> omega
  have e34 : ((c.toNat : Int) == 34) = false := by simp <;> omega
  have e35 : ((c.toNat : Int) == 35) = false := by simp <;> omega
  have p48 : (decide ((48 : Int) ≤ (c.toNat : Int))) = true := by simp <;> omega
  have p57 : (decide ((c.toNat : Int) ≤ 57)) = false := by simp <;> omega
  have hx : bits BinOp.or IntKind.u8 (c.toNat : Int) 32 = ((c.toNat : Nat) : Int) := by rw [bits_is (by omega), if_pos (by omega)]
  have p97 : (decide ((97 : Int) ≤ bits BinOp.or IntKind.u8 (c.toNat : Int) 32)) = true := by rw [hx]; simp <;> omega
  have p122 : (decide (bits BinOp.or IntKind.u8 (c.toNat : Int) 32 ≤ 122)) = false := by rw [hx]; simp <;> omega
  clear hx h1 h2 hv
  go_enter Tryd.func29, Tryd.ntmps29
  go_wp2_with fail
  refine (HI.out _).mono ?_
  rintro e w' ⟨rfl, rfl⟩
  go_wp2
  go_ret
  exact ⟨rfl, rfl⟩

set_option maxHeartbeats 1000000 in
set_option maxRecDepth 100000 in
theorem class_192 (c : UInt8) (w : World) (h1 : 192 ≤ c.toNat) (h2 : c.toNat ≤ 223) : Calls Tryd.prog 29 #[.int .u8 (c.toNat : Int)] w (RetI w (classN c)) := by
  have hv : classN c = 0 := by
    unfold classN letB
    simp only [marks_nat, decide_eq_true_eq]
    repeat' split
    all_goals omega
  rw [hv]
  have HI := index_is (c := c) (n := -1) (idx_no (by rw [marks_nat]; omega))
  have e32 : ((c.toNat : Int) == 32) = false := by simp <;> omega
  have e9 : ((c.toNat : Int) == 9) = false := by simp <;> omega
  have e10 : ((c.toNat : Int) == 10) = false := by simp <;> omega
  have e95 : ((c.toNat : Int) == 95) = false := by simp <;> omega
  have e45 : ((c.toNat : Int) == 45) = false := by simp <;> omega
  have e34 : ((c.toNat : Int) == 34) = false := by simp <;> omega
  have e35 : ((c.toNat : Int) == 35) = false := by simp <;> omega
  have p48 : (decide ((48 : Int) ≤ (c.toNat : Int))) = true := by simp <;> omega
  have p57 : (decide ((c.toNat : Int) ≤ 57)) = false := by simp <;> omega
  have hx : bits BinOp.or IntKind.u8 (c.toNat : Int) 32 = ((c.toNat + 32 : Nat) : Int) := by rw [bits_is (by omega), if_neg (by omega)]
  have p97 : (decide ((97 : Int) ≤ bits BinOp.or IntKind.u8 (c.toNat : Int) 32)) = true := by rw [hx]; simp <;> omega
  have p122 : (decide (bits BinOp.or IntKind.u8 (c.toNat : Int) 32 ≤ 122)) = false := by rw [hx]; simp <;> omega
  clear hx h1 h2 hv
  go_enter Tryd.func29, Tryd.ntmps29
  go_wp2_with fail
  refine (HI.out _).mono ?_
  rintro e w' ⟨rfl, rfl⟩
  go_wp2
  go_ret
  exact ⟨rfl, rfl⟩

set_option maxHeartbeats 1000000 in
set_option maxRecDepth 100000 in
theorem class_224 (c : UInt8) (w : World) (h1 : 224 ≤ c.toNat) (h2 : c.toNat ≤ 255) : Calls Tryd.prog 29 #[.int .u8 (c.toNat : Int)] w (RetI w (classN c)) := by
  have hv : classN c = 0 := by
    unfold classN letB
    simp only [marks_nat, decide_eq_true_eq]
    repeat' split
    all_goals omega
  rw [hv]
  have HI := index_is (c := c) (n := -1) (idx_no (by rw [marks_nat]; omega))
  have e32 : ((c.toNat : Int) == 32) = false := by simp <;> omega
  have e9 : ((c.toNat : Int) == 9) = false := by simp <;> omega
  have e10 : ((c.toNat : Int) == 10) = false := by simp <;> omega
  have e95 : ((c.toNat : Int) == 95) = false := by simp <;> omega
  have e45 : ((c.toNat : Int) == 45) = false := by simp <;> omega
  have e34 : ((c.toNat : Int) == 34) = false := by simp <;> omega
  have e35 : ((c.toNat : Int) == 35) = false := by simp <;> omega
  have p48 : (decide ((48 : Int) ≤ (c.toNat : Int))) = true := by simp <;> omega
  have p57 : (decide ((c.toNat : Int) ≤ 57)) = false := by simp <;> omega
  have hx : bits BinOp.or IntKind.u8 (c.toNat : Int) 32 = ((c.toNat : Nat) : Int) := by rw [bits_is (by omega), if_pos (by omega)]
  have p97 : (decide ((97 : Int) ≤ bits BinOp.or IntKind.u8 (c.toNat : Int) 32)) = true := by rw [hx]; simp <;> omega
  have p122 : (decide (bits BinOp.or IntKind.u8 (c.toNat : Int) 32 ≤ 122)) = false := by rw [hx]; simp <;> omega
  clear hx h1 h2 hv
  go_enter Tryd.func29, Tryd.ntmps29
  go_wp2_with fail
  refine (HI.out _).mono ?_
  rintro e w' ⟨rfl, rfl⟩
  go_wp2
  go_ret
  exact ⟨rfl, rfl⟩

theorem class_any (c : UInt8) (w : World) : Calls Tryd.prog 29 #[.int .u8 (c.toNat : Int)] w (RetI w (classN c)) := by
  have hc := c.toNat_lt
  rcases Nat.lt_or_ge 8 c.toNat with h8 | h8
  case inr => exact class_0 c w (by omega) h8
  rcases Nat.lt_or_ge 9 c.toNat with h9 | h9
  case inr => exact class_9 c w (by omega) h9
  rcases Nat.lt_or_ge 10 c.toNat with h10 | h10
  case inr => exact class_10 c w (by omega) h10
  rcases Nat.lt_or_ge 31 c.toNat with h31 | h31
  case inr => exact class_11 c w (by omega) h31
  rcases Nat.lt_or_ge 32 c.toNat with h32 | h32
  case inr => exact class_32 c w (by omega) h32
  rcases Nat.lt_or_ge 33 c.toNat with h33 | h33
  case inr => exact class_33 c w (by omega) h33
  rcases Nat.lt_or_ge 34 c.toNat with h34 | h34
  case inr => exact class_34 c w (by omega) h34
  rcases Nat.lt_or_ge 35 c.toNat with h35 | h35
  case inr => exact class_35 c w (by omega) h35
  rcases Nat.lt_or_ge 39 c.toNat with h39 | h39
  case inr => exact class_36 c w (by omega) h39
  rcases Nat.lt_or_ge 40 c.toNat with h40 | h40
  case inr => exact class_40 c w (by omega) h40
  rcases Nat.lt_or_ge 41 c.toNat with h41 | h41
  case inr => exact class_41 c w (by omega) h41
  rcases Nat.lt_or_ge 42 c.toNat with h42 | h42
  case inr => exact class_42 c w (by omega) h42
  rcases Nat.lt_or_ge 43 c.toNat with h43 | h43
  case inr => exact class_43 c w (by omega) h43
  rcases Nat.lt_or_ge 44 c.toNat with h44 | h44
  case inr => exact class_44 c w (by omega) h44
  rcases Nat.lt_or_ge 45 c.toNat with h45 | h45
  case inr => exact class_45 c w (by omega) h45
  rcases Nat.lt_or_ge 47 c.toNat with h47 | h47
  case inr => exact class_46 c w (by omega) h47
  rcases Nat.lt_or_ge 57 c.toNat with h57 | h57
  case inr => exact class_48 c w (by omega) h57
  rcases Nat.lt_or_ge 58 c.toNat with h58 | h58
  case inr => exact class_58 c w (by omega) h58
  rcases Nat.lt_or_ge 59 c.toNat with h59 | h59
  case inr => exact class_59 c w (by omega) h59
  rcases Nat.lt_or_ge 63 c.toNat with h63 | h63
  case inr => exact class_60 c w (by omega) h63
  rcases Nat.lt_or_ge 64 c.toNat with h64 | h64
  case inr => exact class_64 c w (by omega) h64
  rcases Nat.lt_or_ge 90 c.toNat with h90 | h90
  case inr => exact class_65 c w (by omega) h90
  rcases Nat.lt_or_ge 94 c.toNat with h94 | h94
  case inr => exact class_91 c w (by omega) h94
  rcases Nat.lt_or_ge 95 c.toNat with h95 | h95
  case inr => exact class_95 c w (by omega) h95
  rcases Nat.lt_or_ge 96 c.toNat with h96 | h96
  case inr => exact class_96 c w (by omega) h96
  rcases Nat.lt_or_ge 122 c.toNat with h122 | h122
  case inr => exact class_97 c w (by omega) h122
  rcases Nat.lt_or_ge 123 c.toNat with h123 | h123
  case inr => exact class_123 c w (by omega) h123
  rcases Nat.lt_or_ge 124 c.toNat with h124 | h124
  case inr => exact class_124 c w (by omega) h124
  rcases Nat.lt_or_ge 125 c.toNat with h125 | h125
  case inr => exact class_125 c w (by omega) h125
  rcases Nat.lt_or_ge 127 c.toNat with h127 | h127
  case inr => exact class_126 c w (by omega) h127
  rcases Nat.lt_or_ge 159 c.toNat with h159 | h159
  case inr => exact class_128 c w (by omega) h159
  rcases Nat.lt_or_ge 191 c.toNat with h191 | h191
  case inr => exact class_160 c w (by omega) h191
  rcases Nat.lt_or_ge 223 c.toNat with h223 | h223
  case inr => exact class_192 c w (by omega) h223
  exact class_224 c w (by omega) (by omega)

end Go.Proofs.YtnmiiimbjojcmaaDoor

namespace Go.Proofs.YtnmiiimbjojcmaaDoor
open Go.RowKit

set_option maxHeartbeats 1000000 in
set_option maxRecDepth 100000 in
theorem leap_any (y : Nat) (w : World) (hy : y ≤ 10000) : Calls Tryd.prog 96 #[.int .i64 (y : Int)] w (RetB w (leapB y)) := by
  have hb : leapB y = (((y : Int) % 4 == 0) && (((y : Int) % 100 != 0) || ((y : Int) % 400 == 0))) := by
    unfold leapB
    rw [Bool.eq_iff_iff]
    simp
    omega
  rw [hb]
  obtain ⟨b1, h1⟩ : ∃ b, ((y : Int) % 4 == 0) = b := ⟨_, rfl⟩
  obtain ⟨b2, h2⟩ : ∃ b, ((y : Int) % 100 != 0) = b := ⟨_, rfl⟩
  obtain ⟨b3, h3⟩ : ∃ b, ((y : Int) % 400 == 0) = b := ⟨_, rfl⟩
  rw [h1, h2, h3]
  clear hb
  cases b1 <;> cases b2 <;> cases b3
  all_goals
    go_enter Tryd.func96, Tryd.ntmps96
    go_wp2
    go_ret
    exact ⟨rfl, rfl⟩

theorem longN_2 (y : Nat) : longN y 2 = if leapB y = true then 29 else 28 := rfl
set_option maxHeartbeats 1000000 in
set_option maxRecDepth 100000 in
theorem leaps_any (y : Nat) (w : World) (hy : y ≤ 10000) : Calls Tryd.prog 95 #[.int .i64 (y : Int)] w (RetI w (leapsN y : Int)) := by
  obtain ⟨a, ha⟩ : ∃ a, a = y / 4 := ⟨_, rfl⟩
  obtain ⟨b, hb⟩ : ∃ b, b = y / 100 := ⟨_, rfl⟩
  obtain ⟨c, hc⟩ : ∃ c, c = y / 400 := ⟨_, rfl⟩
  have ha' : (y : Int) / 4 = (a : Int) := by omega
  have hb' : (y : Int) / 100 = (b : Int) := by omega
  have hc' : (y : Int) / 400 = (c : Int) := by omega
  have hl : (leapsN y : Int) = (a : Int) - (b : Int) + (c : Int) := by unfold leapsN; omega
  have l1 : b ≤ a := by omega
  have l2 : a ≤ 10000 := by omega
  have l3 : c ≤ 10000 := by omega
  rw [hl]
  clear hl ha hb hc
  go_enter Tryd.func95, Tryd.ntmps95
  go_wp2
  go_ret
  exact ⟨rfl, rfl⟩

set_option maxHeartbeats 1000000 in
set_option maxRecDepth 100000 in
theorem first_any' (y : Nat) (w : World) (h1 : 1900 ≤ y) (hy : y ≤ 10000) : Calls Tryd.prog 72 #[.int .i64 (y : Int)] w (RetI w (yd y : Int)) := by
  obtain ⟨k, rfl⟩ : ∃ k, y = k + 1 := ⟨y - 1, by omega⟩
  have hl := leaps_ge (y := k) (by omega)
  have H1 := Lib.hid (fun W => leaps_any k W (by omega))
  have H2 := Lib.hid (fun W => leaps_any 1899 W (by omega))
  have e2 : (leapsN 1899 : Int) = 460 := by decide
  have hu : leapsN k ≤ 10000 := by unfold leapsN; omega
  obtain ⟨L, hL⟩ : ∃ L, L = leapsN k := ⟨_, rfl⟩
  have hy' : (yd (k + 1) : Int) = 365 * ((k : Int) + 1 - 1900) + (L : Int) - 460 := by unfold yd; rw [Nat.add_sub_cancel, ← hL]; omega
  rw [hy']
  rw [← hL] at H1 hl hu
  rw [e2] at H2
  have ek : ((k + 1 : Nat) : Int) = (k : Int) + 1 := by omega
  rw [ek]
  clear hy' hL e2 ek
  go_enter Tryd.func72, Tryd.ntmps72
  go_wp2_with fail
  refine (H1.out _).mono ?_
  rintro e w' ⟨rfl, rfl⟩
  go_wp2_with fail
  refine (H2.out _).mono ?_
  rintro e w' ⟨rfl, rfl⟩
  go_wp2
  go_ret
  exact ⟨rfl, rfl⟩

end Go.Proofs.YtnmiiimbjojcmaaDoor

namespace Go.Proofs.YtnmiiimbjojcmaaDoor
open Go.RowKit

def inB (n a b : Int) : Bool := decide (a ≤ n) && decide (n ≤ b)
/-- The parts of a date, and an error. -/
def PartsPost (w : World) (y m d e0 : Int) (e : Ending) (w' : World) : Prop := e = .returned (.tuple #[.int .i64 y, .int .i64 m, .int .i64 d, .int .i64 e0]) ∧ Below w.heap.size w w'

def lensV (y : Nat) : Array Value := #[.int .i64 0, .int .i64 31, .int .i64 (longN y 2 : Int), .int .i64 31, .int .i64 30, .int .i64 31, .int .i64 30, .int .i64 31, .int .i64 31, .int .i64 30, .int .i64 31, .int .i64 30, .int .i64 31]
theorem lensV_get (y m : Nat) (h1 : 1 ≤ m) (h2 : m ≤ 12) : (lensV y)[m]? = some (.int .i64 (longN y m : Int)) := by
  have hm : m = 1 ∨ m = 2 ∨ m = 3 ∨ m = 4 ∨ m = 5 ∨ m = 6 ∨ m = 7 ∨ m = 8 ∨ m = 9 ∨ m = 10 ∨ m = 11 ∨ m = 12 := by omega
  rcases hm with rfl | rfl | rfl | rfl | rfl | rfl | rfl | rfl | rfl | rfl | rfl | rfl <;> rfl

set_option maxHeartbeats 1000000 in
set_option maxRecDepth 100000 in
theorem lengths_any (y : Nat) (w : World) (hy : y ≤ 10000) : Calls Tryd.prog 73 #[.int .i64 (y : Int)] w fun e w' => e = .returned (.agg (lensV y)) ∧ Below w.heap.size w w' := by
  have HL := Lib.hid (fun W => leap_any y W hy)
  unfold lensV
  rw [longN_2]
  obtain ⟨b, hb⟩ : ∃ b, b = leapB y := ⟨_, rfl⟩
  rw [← hb] at HL ⊢
  clear hb
  cases b
  · go_enter Tryd.func73, Tryd.ntmps73
    go_wp2_with fail
    refine (HL.out _).mono ?_
    rintro e w' ⟨rfl, rfl⟩
    go_wp2
    refine bodyPost_ret (results_cell_row rfl _ _ w.heap.size 108 _ (0, 0) _ rfl (heap_two _ _ _) Tryd.underlying108 rfl rfl) rfl ?_
    exact ⟨rfl, (own_below _ _).trans ((own_below _ _).mono (by simp))⟩
  · go_enter Tryd.func73, Tryd.ntmps73
    go_wp2_with fail
    refine (HL.out _).mono ?_
    rintro e w' ⟨rfl, rfl⟩
    go_wp2
    refine bodyPost_ret (results_cell_row rfl _ _ w.heap.size 108 _ (0, 0) _ rfl (heap_two _ _ _) Tryd.underlying108 rfl rfl) rfl ?_
    exact ⟨rfl, (own_below _ _).trans ((own_below _ _).mono (by simp))⟩

theorem first_is (y : Nat) (h1 : 1900 ≤ y) (hy : y ≤ 9999) : Hid (∀ W, Calls Tryd.prog 72 #[.int .i64 ((y : Int) + 1)] W (RetI W (yd (y + 1) : Int))) := fun W => by
  have := first_any' (y + 1) W (by omega) (by omega)
  rwa [show ((y + 1 : Nat) : Int) = (y : Int) + 1 by omega] at this

/-- The year so far. -/
def YrR (day : Nat) (v : Value) : Prop := ∃ y : Nat, v = .int .i64 (y : Int) ∧ 1900 ≤ y ∧ yd y ≤ day
/-- The month and the days so far. -/
def MoR (day y : Nat) (mv dv : Value) : Prop := ∃ m d : Nat, mv = .int .i64 (m : Int) ∧ dv = .int .i64 (d : Int) ∧ MonAt day y m d

set_option maxHeartbeats 2000000 in
set_option maxRecDepth 100000 in
theorem parts_ok (day Y M D : Nat) (w : World) (hd : day ≤ 99999) (h : DateIs day Y M D) : Calls Tryd.prog 67 #[.int .i64 (day : Int)] w (PartsPost w Y M D 0) := by
  have HU := Lib.hid h
  obtain ⟨k, hk⟩ : ∃ k, k = day / 366 := ⟨_, rfl⟩
  have hkI : (day : Int) / 366 = (k : Int) := by omega
  have hst : YrR day (.int .i64 (1900 + (k : Int))) := ⟨1900 + k, by congr 1, by omega, by rw [hk]; exact prog_year_start day⟩
  have HST := Lib.hid hst
  have hk2 : k ≤ 1000 := by omega
  clear h hk hst
  go_enter Tryd.func67, Tryd.ntmps67
  go_wp2_with fail
  go_loop [2] (YrR day) (fun v => 3000 - (intOf v).toNat)
  case atStart => exact HST.out
  case round =>
    obtain ⟨y, rfl, hy, hyd⟩ := hrel
    have hy2 : y ≤ 2174 := by have := yd_ge hy; omega
    have HF := first_is y hy (by omega)
    obtain ⟨Y1, hY1⟩ : ∃ Y1, Y1 = yd (y + 1) := ⟨_, rfl⟩
    rw [← hY1] at HF
    by_cases hlt : Y1 ≤ day
    · have HN : Hid (YrR day (.int .i64 ((y : Int) + 1))) := ⟨y + 1, by congr 1, by omega, by rw [← hY1]; exact hlt⟩
      clear hY1 hyd HST
      go_wp2_with fail
      refine (HF.out _).mono ?_
      rintro e w' ⟨rfl, rfl⟩
      go_wp2_with fail
      go_round
      case rel => exact HN.out
      case measure => simp [intOf]; omega
    · have hm0 := mon_start hy hyd (by rw [← hY1]; omega)
      have HF2 := Lib.hid (fun W => first_any' y W hy (by omega))
      have hL := fun W => lengths_any y W (by omega)
      unfold lensV at hL
      have HL := Lib.hid hL
      clear hL
      obtain ⟨Y0, hY0⟩ : ∃ Y0, Y0 = yd y := ⟨_, rfl⟩
      rw [← hY0] at HF2 hm0 hyd
      have hM0 : Hid (MoR day y (.int .i64 1) (.int .i64 ((day : Int) - (Y0 : Int) + 1))) := ⟨1, day - Y0 + 1, rfl, by congr 1; omega, hm0⟩
      have hc : ∀ W : World, ∀ m : Nat, 1 ≤ m → m ≤ 12 → (W.alloc (.cells (lensV y) 108)).cell? ⟨W.heap.size, m, none⟩ = some (.int .i64 (longN y m : Int)) := fun W m a1 a2 => by
        rw [RowAt.cell (rowAt_alloc (t := 108) (c := lensV y) rfl rfl) (by show m < 13; omega)]
        simpa using lensV_get y m a1 a2
      have HC := Lib.hid hc
      clear hY1 hY0 hm0 HST hc
      go_wp2_with fail
      refine (HF.out _).mono ?_
      rintro e w' ⟨rfl, rfl⟩
      go_wp2_with fail
      refine (HF2.out _).mono ?_
      rintro e w' ⟨rfl, rfl⟩
      go_wp2_with fail
      refine (HL.out _).mono ?_
      rintro e w2 ⟨rfl, b2⟩
      have B2 := Lib.hid b2
      clear b2
      go_wp2_with fail
      go_loop [3, 4] (MoR day y) (fun _ v => (intOf v).toNat)
      case atStart => exact hM0.out
      case round =>
        obtain ⟨m, d, rfl, rfl, hm⟩ := hrel
        obtain ⟨n, hn⟩ : ∃ n, n = longN y m := ⟨_, rfl⟩
        have hc := HC.out w2 m hm.2.1 hm.2.2.1
        unfold lensV at hc
        rw [← hn] at hc
        have hm12 := hm.2.2.1
        by_cases hlt : n < d
        · obtain ⟨hs, hlt12⟩ := mon_step hm (by rw [← hn]; exact hlt)
          rw [← hn] at hs
          have hn28 : 28 ≤ n := by rw [hn]; exact longN_ge _ _
          have hd99 : d ≤ 100000 := by have := hm.2.2.2.2.1; omega
          have HS : Hid (MoR day y (.int .i64 ((m : Int) + 1)) (.int .i64 ((d : Int) - (n : Int)))) := ⟨m + 1, d - n, by congr 1, by congr 1; omega, hs⟩
          clear hn hm hs HC hM0
          go_wp2_with fail
          go_round
          case rel => exact HS.out
          case measure => simp [intOf]; omega
        · obtain ⟨e1, e2, e3⟩ := HU.out.unique (mon_end hm (by rw [← hn]; omega))
          have E1 := Lib.hid e1
          have E2 := Lib.hid e2
          have E3 := Lib.hid e3
          clear hn hm HC hM0 e1 e2 e3
          go_wp2_with fail
          refine bodyPost_ret (results_tmp4 rfl _ _ _) rfl ?_
          refine ⟨?_, (B2.out.alloc (Nat.le_trans (by simp) B2.out.size) _)⟩
          rw [E1.out, E2.out, E3.out]
          rfl

set_option maxHeartbeats 2000000 in
set_option maxRecDepth 100000 in
theorem parts_bad (n : Int) (w : World) (h : inB n 0 99999 = false) : Calls Tryd.prog 67 #[.int .i64 n] w (PartsPost w 0 0 0 2) := by
  have hn : n < 0 ∨ 99999 < n := by unfold inB at h; simp at h; omega
  clear h
  rcases hn with hn | hn
  all_goals
    go_enter Tryd.func67, Tryd.ntmps67
    go_wp2
    refine bodyPost_ret (results_tmp4 rfl _ _ _) rfl ?_
    exact ⟨rfl, Below.refl _ _⟩

/-- The reference's loop: year, month, days left. -/
def RpR (day : Nat) (rv yv mv : Value) : Prop := ∃ y m r : Nat, yv = .int .i64 (y : Int) ∧ mv = .int .i64 (m : Int) ∧ rv = .int .i64 (r : Int) ∧ RefAt day y m r

end Go.Proofs.YtnmiiimbjojcmaaDoor

namespace Go.Proofs.YtnmiiimbjojcmaaDoor
open Go.RowKit

theorem dig_val {d : Nat} (h : d < 10) : Value.int .u8 ((48 : Int) + (d : Int)) = .int .u8 ((UInt8.ofNat (48 + d)).toNat : Int) := by
  congr 1
  rw [UInt8.toNat_ofNat']; omega

/-- What digits hands back. -/
def DigsPost (B : Nat) (w : World) (l : List UInt8) (e : Ending) (w' : World) : Prop := ∃ v', e = .returned v' ∧ w'.ownsRow B 5 1 v' l.length (bytesV l) ∧ Below B w w'

set_option maxHeartbeats 2000000 in
set_option maxRecDepth 100000 in
theorem digits_many (k : Nat) : ∀ (B : Nat) (v : Value) (l : List UInt8) (n : Nat) (many : Int) (w : World), n ≤ 100000 → k ≤ 10 → l.length ≤ 1000 → B ≤ w.heap.size → many = (k : Int) + 1 → w.ownsRow B 5 1 v l.length (bytesV l) →
    Calls Tryd.prog 68 #[v, .int .i64 (n : Int), .int .i64 many] w (DigsPost B w (l ++ figB n (k + 1))) := by
  obtain ⟨i0, hi, hz0, hz1, hz2⟩ := info_parts infoU8
  induction k with
  | zero =>
    intro B v l n many w hn hk hl hB hm ho
    obtain ⟨d, hd⟩ : ∃ d, d = n % 10 := ⟨_, rfl⟩
    have hdI : (n : Int) % 10 = (d : Int) := by omega
    have hdb : d < 10 := by omega
    have HF : Hid (l ++ figB n (0 + 1) = l ++ [UInt8.ofNat (48 + d)]) := by rw [hd]; rfl
    have HO := Lib.hid ho
    obtain ⟨m, hm'⟩ : ∃ m, m = l.length := ⟨_, rfl⟩
    have HO' := HO.out
    rw [← hm'] at HO' hl
    have HO2 := Lib.hid HO'
    have HM := Lib.hid hm'
    subst hm
    clear ho HO HO' hd hm'
    rw [HF.out]
    go_enter Tryd.func68, Tryd.ntmps68
    go_wp2_with (at_builtin; refine wpList_append1 _ rfl (.tmp 15) (.tmp 20) 43 rfl B 5 i0 (.int .u8 0) 1 Tryd.underlying43 hi hz0 hz1 hz2 rfl _ _ _ rfl (HO2.out.alloc _) ⟨w.heap.size, 0, none⟩ 1 (.int .u8 ((48 : Int) + (d : Int))) rfl ?c1 rfl ?c3 ?c4 ?c5 ?_)
    case c1 => simp
    case c3 => unfold maxLen; omega
    case c4 => omega
    case c5 => simp; omega
    intro v3 w3 ho3 hg3 hne3 hpl3
    have n3 : Below B w w3 := ((Below.refl B w).alloc hB _).grown hg3 (by simp; omega) (fun k hk => (HO2.out.lt k hk).1)
    rw [dig_val hdb, bytesV_snoc] at ho3
    have HO3 := Lib.hid ho3
    have N3 := Lib.hid n3
    clear ho3 hg3 hne3 hpl3 n3
    go_wp2_with fail
    go_ret
    exact ⟨_, rfl, by rw [List.length_append, ← HM.out]; exact HO3.out, N3.out⟩
  | succ k ih =>
    intro B v l n many w hn hk hl hB hm ho
    obtain ⟨d, hd⟩ : ∃ d, d = n % 10 := ⟨_, rfl⟩
    obtain ⟨q, hq⟩ : ∃ q, q = n / 10 := ⟨_, rfl⟩
    have hdI : (n : Int) % 10 = (d : Int) := by omega
    have hqI : (n : Int) / 10 = (q : Int) := by omega
    have hdb : d < 10 := by omega
    have HF : Hid (l ++ figB n (k + 1 + 1) = (l ++ figB q (k + 1)) ++ [UInt8.ofNat (48 + d)]) := by rw [hd, hq]; show l ++ (figB (n / 10) (k + 1) ++ _) = _; rw [List.append_assoc]
    have HI := Lib.hid (ih B v l q (many - 1) w (by omega) (by omega) hl hB (by omega) ho)
    obtain ⟨m, hm'⟩ : ∃ m, m = (l ++ figB q (k + 1)).length := ⟨_, rfl⟩
    have hml : m = l.length + (k + 1) := by rw [hm', List.length_append, figB_len]
    have t1 : decide ((1 : Int) < many) = true := by simp; omega
    have hmb : 1 ≤ many ∧ many ≤ 100 := by omega
    have HM := Lib.hid hm'
    clear ho hd hq hm hm' ih
    rw [HF.out]
    go_enter Tryd.func68, Tryd.ntmps68
    go_wp2_with fail
    refine HI.out.mono ?_
    rintro e w1 ⟨v1, rfl, ho1, b1⟩
    rw [← HM.out] at ho1
    have HO1 := Lib.hid ho1
    have B1 := Lib.hid b1
    clear ho1 b1 HI
    go_wp2_with (at_builtin; refine wpList_append1 _ rfl (.tmp 15) (.tmp 20) 43 rfl B 5 i0 (.int .u8 0) 1 Tryd.underlying43 hi hz0 hz1 hz2 rfl _ _ _ rfl (HO1.out.alloc _) ⟨w1.heap.size, 0, none⟩ 1 (.int .u8 ((48 : Int) + (d : Int))) rfl ?c1 rfl ?c3 ?c4 ?c5 ?_)
    case c1 => simp
    case c3 => unfold maxLen; omega
    case c4 => omega
    case c5 => have := B1.out.size; simp; omega
    intro v3 w3 ho3 hg3 hne3 hpl3
    have n3 : Below B w w3 := (B1.out.alloc (Nat.le_trans hB B1.out.size) _).grown hg3 (by have := B1.out.size; simp; omega) (fun k hk => (HO1.out.lt k hk).1)
    rw [dig_val hdb, bytesV_snoc] at ho3
    have HO3 := Lib.hid ho3
    have N3 := Lib.hid n3
    clear ho3 hg3 hne3 hpl3 n3
    go_wp2_with fail
    go_ret
    exact ⟨_, rfl, by rw [List.length_append, ← HM.out, hml]; exact HO3.out, N3.out⟩

/-- A text and an error. -/
theorem dtext_len (Y M D : Nat) : ([] ++ figB Y 4 ++ [45] ++ figB M 2 ++ [45] ++ figB D 2 : List UInt8) = dateB Y M D := by simp [dateB]

set_option maxHeartbeats 2000000 in
set_option maxRecDepth 100000 in
theorem dtext_ok (day Y M D : Nat) (w : World) (hd : day ≤ 99999) (h : DateIs day Y M D) : Calls Tryd.prog 54 #[.int .i64 (day : Int)] w (SEPost w (dateB Y M D) 0) := by
  obtain ⟨i0, hi, hz0, hz1, hz2⟩ := info_parts infoU8
  have HP := Lib.hid (fun W => parts_ok day Y M D W hd h)
  obtain ⟨hY, hD⟩ := h.small hd
  have hM : M ≤ 12 := h.2.2.1
  obtain ⟨L1, hL1⟩ : ∃ L1, L1 = [] ++ figB Y 4 := ⟨_, rfl⟩
  obtain ⟨L2, hL2⟩ : ∃ L2, L2 = L1 ++ [45] := ⟨_, rfl⟩
  obtain ⟨L3, hL3⟩ : ∃ L3, L3 = L2 ++ figB M 2 := ⟨_, rfl⟩
  obtain ⟨L4, hL4⟩ : ∃ L4, L4 = L3 ++ [45] := ⟨_, rfl⟩
  obtain ⟨L5, hL5⟩ : ∃ L5, L5 = L4 ++ figB D 2 := ⟨_, rfl⟩
  have l1 : L1.length = 4 := by rw [hL1, List.nil_append, figB_len]
  have l2 : L2.length = 5 := by rw [hL2, List.length_append, l1]; rfl
  have l3 : L3.length = 7 := by rw [hL3, List.length_append, l2, figB_len]
  have l4 : L4.length = 8 := by rw [hL4, List.length_append, l3]; rfl
  have HL : Hid (dateB Y M D = L5) := by show _ = _; rw [hL5, hL4, hL3, hL2, hL1]; exact (dtext_len Y M D).symm
  have HB1 : Hid (bytesV L1 ++ [.int .u8 45] = bytesV L2) := by rw [hL2, ← bytesV_snoc]; rfl
  have HB2 : Hid (bytesV L3 ++ [.int .u8 45] = bytesV L4) := by rw [hL4, ← bytesV_snoc]; rfl
  have H1 : Hid (∀ W : World, w.heap.size ≤ W.heap.size → Calls Tryd.prog 68 #[.slice none 0 0, .int .i64 (Y : Int), .int .i64 4] W (DigsPost w.heap.size W L1)) := fun W hW => by
    rw [hL1]; exact digits_many 3 w.heap.size (.slice none 0 0) [] Y 4 W (by omega) (by omega) (by simp) hW rfl (World.ownsRow_nil _ _ _ _)
  have H2 : Hid (∀ (W : World) (v : Value), w.heap.size ≤ W.heap.size → W.ownsRow w.heap.size 5 1 v 5 (bytesV L2) → Calls Tryd.prog 68 #[v, .int .i64 (M : Int), .int .i64 2] W (DigsPost w.heap.size W L3)) := fun W v hW ho => by
    rw [hL3]; exact digits_many 1 w.heap.size v L2 M 2 W (by omega) (by omega) (by omega) hW rfl (by rw [l2]; exact ho)
  have H3 : Hid (∀ (W : World) (v : Value), w.heap.size ≤ W.heap.size → W.ownsRow w.heap.size 5 1 v 8 (bytesV L4) → Calls Tryd.prog 68 #[v, .int .i64 (D : Int), .int .i64 2] W (DigsPost w.heap.size W L5)) := fun W v hW ho => by
    rw [hL5]; exact digits_many 1 w.heap.size v L4 D 2 W (by omega) (by omega) (by omega) hW rfl (by rw [l4]; exact ho)
  rw [HL.out]
  clear h hL1 hL2 hL3 hL4 hL5
  go_enter Tryd.func54, Tryd.ntmps54
  go_wp2_with fail
  refine (HP.out _).mono ?_
  rintro e w1 ⟨rfl, b1⟩
  have B1 := Lib.hid b1
  clear b1
  go_wp2_with fail
  refine (H1.out _ B1.out.size).mono ?_
  rintro e w2 ⟨v2, rfl, ho2, b2⟩
  rw [l1] at ho2
  have O2 := Lib.hid ho2
  have B2 := Lib.hid (B1.out.trans b2)
  clear ho2 b2 B1
  go_wp2_with (at_builtin; refine wpList_append1 _ rfl (.tmp 20) (.tmp 21) 43 rfl w.heap.size 5 i0 (.int .u8 0) 1 Tryd.underlying43 hi hz0 hz1 hz2 rfl _ _ _ rfl (O2.out.alloc _) ⟨w2.heap.size, 0, none⟩ 1 (.int .u8 45) rfl ?c1 rfl ?c3 ?c4 ?c5 ?_)
  case c1 => simp
  case c3 => unfold maxLen; omega
  case c4 => omega
  case c5 => have := B2.out.size; simp; omega
  intro v3 w3 ho3 hg3 hne3 hpl3
  have n3 : Below w.heap.size w w3 := (B2.out.alloc B2.out.size _).grown hg3 (by have := B2.out.size; simp; omega) (fun k hk => (O2.out.lt k hk).1)
  rw [HB1.out] at ho3
  have O3 := Lib.hid ho3
  have B3 := Lib.hid n3
  clear ho3 hg3 hne3 hpl3 n3 O2 B2
  go_wp2_with fail
  refine (H2.out _ _ B3.out.size O3.out).mono ?_
  rintro e w4 ⟨v4, rfl, ho4, b4⟩
  rw [l3] at ho4
  have O4 := Lib.hid ho4
  have B4 := Lib.hid (B3.out.trans b4)
  clear ho4 b4 B3 O3
  go_wp2_with (at_builtin; refine wpList_append1 _ rfl (.tmp 25) (.tmp 26) 43 rfl w.heap.size 5 i0 (.int .u8 0) 1 Tryd.underlying43 hi hz0 hz1 hz2 rfl _ _ _ rfl (O4.out.alloc _) ⟨w4.heap.size, 0, none⟩ 1 (.int .u8 45) rfl ?c1 rfl ?c3 ?c4 ?c5 ?_)
  case c1 => simp
  case c3 => unfold maxLen; omega
  case c4 => omega
  case c5 => have := B4.out.size; simp; omega
  intro v5 w5 ho5 hg5 hne5 hpl5
  have n5 : Below w.heap.size w w5 := (B4.out.alloc B4.out.size _).grown hg5 (by have := B4.out.size; simp; omega) (fun k hk => (O4.out.lt k hk).1)
  rw [HB2.out] at ho5
  have O5 := Lib.hid ho5
  have B5 := Lib.hid n5
  clear ho5 hg5 hne5 hpl5 n5 O4 B4
  go_wp2_with fail
  refine (H3.out _ _ B5.out.size O5.out).mono ?_
  rintro e w6 ⟨v6, rfl, ho6, b6⟩
  have hcv := conv_own ho6 9 Tryd.underlying9
  have B6 := Lib.hid (B5.out.trans b6)
  clear ho6 b6 B5 O5
  go_wp2_with fail
  go_ret2
  exact ⟨rfl, B6.out⟩

theorem dtext_bad (n : Int) (w : World) (h : inB n 0 99999 = false) : Calls Tryd.prog 54 #[.int .i64 n] w (SEPost w [] 2) := by
  have HP := Lib.hid (fun W => parts_bad n W h)
  clear h
  go_enter Tryd.func54, Tryd.ntmps54
  go_wp2_with fail
  refine (HP.out _).mono ?_
  rintro e w1 ⟨rfl, b1⟩
  have B1 := Lib.hid b1
  clear b1
  go_wp2_with fail
  go_ret2
  exact ⟨rfl, B1.out⟩

/-- The reference's loop over the digits. -/
def FigR (w : World) (n many : Nat) (nv sv iv : Value) (wr : World) : Prop :=
  ∃ (i m : Nat) (s : ByteArray), nv = .int .i64 (m : Int) ∧ sv = .string s ∧ iv = .int .i64 (i : Int) ∧ m ≤ n ∧ s.size = i ∧ FigAt n many s.data.toList i m ∧ Below w.heap.size w wr

end Go.Proofs.YtnmiiimbjojcmaaDoor
