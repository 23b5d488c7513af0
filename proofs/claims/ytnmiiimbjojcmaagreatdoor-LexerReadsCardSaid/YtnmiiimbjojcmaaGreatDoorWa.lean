/-
  Classes of bytes walked: the program's class, the reference's Mark. No condition. Leap years and the lengths of months walked: the program's and the reference's. Condition: years up to 10000. The parts of a date walked: the program's and the reference's. No condition. The text of a date walked: the program's and the reference's. No condition.
-/
import Derived.Test.YtnmiiimbjojcmaaGreatDoorVd
import Derived.Test.YtnmiiimbjojcmaaGreatDoorVa
import Derived.Test.YtnmiiimbjojcmaaGreatDoorVm
import Derived.Test.YtnmiiimbjojcmaaGreatDoorRows
import Derived.Test.YtnmiiimbjojcmaaGreatDoorVc
import Derived.IntWalk
import Derived.Laws.Rows
import Derived.Test.YtnmiiimbjojcmaaGreatDoorVf
namespace Go.Proofs.YtnmiiimbjojcmaaGreatDoor
open Go.RowKit

def marksL : List UInt8 := [40, 41, 123, 125, 44, 59, 64, 43, 42]
/-- The class of a byte. -/
def classN (c : UInt8) : Int :=
  if c.toNat = 32 ∨ c.toNat = 9 ∨ c.toNat = 10 then 1 else if 48 ≤ c.toNat ∧ c.toNat ≤ 57 then 2 else if letB c = true then 3
  else if c.toNat = 95 ∨ c.toNat = 45 then 4 else if c ∈ marksL then 5 else if c.toNat = 34 then 6 else if c.toNat = 35 then 7 else 0
/-- Whether a byte is a mark. -/
def mkB (c : UInt8) : Bool := decide (c ∈ marksL) || decide (c.toNat = 45)
theorem marks_nat (c : UInt8) : c ∈ marksL ↔ c.toNat = 40 ∨ c.toNat = 41 ∨ c.toNat = 123 ∨ c.toNat = 125 ∨ c.toNat = 44 ∨ c.toNat = 59 ∨ c.toNat = 64 ∨ c.toNat = 43 ∨ c.toNat = 42 := by
  unfold marksL
  simp only [List.mem_cons, List.not_mem_nil, or_false, ← UInt8.toNat_inj]
  rfl
theorem idx_no {c : UInt8} (h : ¬ c ∈ marksL) : Lib.indexByte marksL c = -1 := by
  have h0 := Lib.indexByte_ge marksL c
  by_cases e : Lib.indexByte marksL c = -1
  · exact e
  · obtain ⟨o, ho⟩ : ∃ o : Nat, Lib.indexByte marksL c = o := ⟨(Lib.indexByte marksL c).toNat, by omega⟩
    exact absurd (List.mem_of_getElem? (Lib.indexByte_some ho).1) h
theorem bits_or (m : Nat) (h : m < 256) : bits BinOp.or IntKind.u8 (m : Int) 32 = ((if m.testBit 5 then m else m + 32 : Nat) : Int) := by
  have : ∀ m : Fin 256, bits BinOp.or IntKind.u8 ((m : Nat) : Int) 32 = ((if (m : Nat).testBit 5 then (m : Nat) else (m : Nat) + 32 : Nat) : Int) := by decide +kernel
  exact this ⟨m, h⟩
theorem bit5 (m : Nat) (h : m < 256) : m.testBit 5 = decide (m / 32 % 2 = 1) := by
  have : ∀ m : Fin 256, (m : Nat).testBit 5 = decide ((m : Nat) / 32 % 2 = 1) := by decide +kernel
  exact this ⟨m, h⟩
theorem bits_is {m : Nat} (h : m < 256) : bits BinOp.or IntKind.u8 (m : Int) 32 = ((if m / 32 % 2 = 1 then m else m + 32 : Nat) : Int) := by
  rw [bits_or m h, bit5 m h]; simp
theorem index_marks (c : UInt8) (w : World) : Calls Tryz.prog 19 #[.string ⟨#[40, 41, 123, 125, 44, 59, 64, 43, 42]⟩, .int .u8 (c.toNat : Int)] w fun e w' => e = .returned (.int .i64 (Lib.indexByte marksL c)) ∧ w = w' := by
  have := Tryz.strings_IndexByte ⟨#[40, 41, 123, 125, 44, 59, 64, 43, 42]⟩ (c.toNat : Int) w
  rw [show ((c.toNat : Int)).toNat.toUInt8 = c by simp] at this
  exact this.mono fun e w' ⟨a, b⟩ => ⟨a, b.symm⟩
theorem index_is {c : UInt8} {n : Int} (h : Lib.indexByte marksL c = n) : Hid (∀ W, Calls Tryz.prog 19 #[.string ⟨#[40, 41, 123, 125, 44, 59, 64, 43, 42]⟩, .int .u8 (c.toNat : Int)] W fun e w' => e = .returned (.int .i64 n) ∧ W = w') := fun W => h ▸ index_marks c W

set_option maxHeartbeats 1000000 in
set_option maxRecDepth 100000 in
theorem class_0 (c : UInt8) (w : World) (h1 : 0 ≤ c.toNat) (h2 : c.toNat ≤ 8) : Calls Tryz.prog 40 #[.int .u8 (c.toNat : Int)] w (RetI w (classN c)) := by
  have hv : classN c = 0 := by
    unfold classN letB
    simp only [marks_nat, decide_eq_true_eq]
    repeat' split
    all_goals omega
  rw [hv]
  have HI := index_is (c := c) (n := -1) (idx_no (by rw [marks_nat]; omega))
  have e32 : ((c.toNat : Int) == 32) = false := by simp <;> omega
  have e9 : ((c.toNat : Int) == 9) = false := by simp <;> omega
  have e10 : ((c.toNat : Int) == 10) = false := by simp <;> omega
  have e95 : ((c.toNat : Int) == 95) = false := by simp <;> omega
  have e45 : ((c.toNat : Int) == 45) = false := by simp <;> omega
  have e34 : ((c.toNat : Int) == 34) = false := by simp <;> omega
  have e35 : ((c.toNat : Int) == 35) = false := by simp <;> omega
  have p48 : (decide ((48 : Int) ≤ (c.toNat : Int))) = false := by simp <;> omega
  have p57 : (decide ((c.toNat : Int) ≤ 57)) = true := by simp <;> omega
  have hx : bits BinOp.or IntKind.u8 (c.toNat : Int) 32 = ((c.toNat + 32 : Nat) : Int) := by rw [bits_is (by omega), if_neg (by omega)]
  have p97 : (decide ((97 : Int) ≤ bits BinOp.or IntKind.u8 (c.toNat : Int) 32)) = false := by rw [hx]; simp <;> omega
  have p122 : (decide (bits BinOp.or IntKind.u8 (c.toNat : Int) 32 ≤ 122)) = true := by rw [hx]; simp <;> omega
  clear hx h1 h2 hv
  go_enter Tryz.func40, Tryz.ntmps40
  go_wp2_with fail
  refine (HI.out _).mono ?_
  rintro e w' ⟨rfl, rfl⟩
  go_wp2
  go_ret
  exact ⟨rfl, rfl⟩

set_option maxHeartbeats 1000000 in
set_option maxRecDepth 100000 in
theorem class_9 (c : UInt8) (w : World) (h1 : 9 ≤ c.toNat) (h2 : c.toNat ≤ 9) : Calls Tryz.prog 40 #[.int .u8 (c.toNat : Int)] w (RetI w (classN c)) := by
  have hv : classN c = 1 := by
    unfold classN letB
    simp only [marks_nat, decide_eq_true_eq]
    repeat' split
    all_goals omega
  rw [hv]
  have e32 : ((c.toNat : Int) == 32) = false := by simp <;> omega
  have e9 : ((c.toNat : Int) == 9) = true := by simp <;> omega
  have e10 : ((c.toNat : Int) == 10) = false := by simp <;> omega
  have e95 : ((c.toNat : Int) == 95) = false := by simp <;> omega
  have e45 : ((c.toNat : Int) == 45) = false := by simp <;> omega
  have e34 : ((c.toNat : Int) == 34) = false := by simp <;> omega
  have e35 : ((c.toNat : Int) == 35) = false := by simp <;> omega
  have p48 : (decide ((48 : Int) ≤ (c.toNat : Int))) = false := by simp <;> omega
  have p57 : (decide ((c.toNat : Int) ≤ 57)) = true := by simp <;> omega
  have hx : bits BinOp.or IntKind.u8 (c.toNat : Int) 32 = ((c.toNat + 32 : Nat) : Int) := by rw [bits_is (by omega), if_neg (by omega)]
  have p97 : (decide ((97 : Int) ≤ bits BinOp.or IntKind.u8 (c.toNat : Int) 32)) = false := by rw [hx]; simp <;> omega
  have p122 : (decide (bits BinOp.or IntKind.u8 (c.toNat : Int) 32 ≤ 122)) = true := by rw [hx]; simp <;> omega
  clear hx h1 h2 hv
  go_enter Tryz.func40, Tryz.ntmps40
  go_wp2
  go_ret
  exact ⟨rfl, rfl⟩

set_option maxHeartbeats 1000000 in
set_option maxRecDepth 100000 in
theorem class_10 (c : UInt8) (w : World) (h1 : 10 ≤ c.toNat) (h2 : c.toNat ≤ 10) : Calls Tryz.prog 40 #[.int .u8 (c.toNat : Int)] w (RetI w (classN c)) := by
  have hv : classN c = 1 := by
    unfold classN letB
    simp only [marks_nat, decide_eq_true_eq]
    repeat' split
    all_goals omega
  rw [hv]
  have e32 : ((c.toNat : Int) == 32) = false := by simp <;> omega
  have e9 : ((c.toNat : Int) == 9) = false := by simp <;> omega
  have e10 : ((c.toNat : Int) == 10) = true := by simp <;> omega
  have e95 : ((c.toNat : Int) == 95) = false := by simp <;> omega
  have e45 : ((c.toNat : Int) == 45) = false := by simp <;> omega
  have e34 : ((c.toNat : Int) == 34) = false := by simp <;> omega
  have e35 : ((c.toNat : Int) == 35) = false := by simp <;> omega
  have p48 : (decide ((48 : Int) ≤ (c.toNat : Int))) = false := by simp <;> omega
  have p57 : (decide ((c.toNat : Int) ≤ 57)) = true := by simp <;> omega
  have hx : bits BinOp.or IntKind.u8 (c.toNat : Int) 32 = ((c.toNat + 32 : Nat) : Int) := by rw [bits_is (by omega), if_neg (by omega)]
  have p97 : (decide ((97 : Int) ≤ bits BinOp.or IntKind.u8 (c.toNat : Int) 32)) = false := by rw [hx]; simp <;> omega
  have p122 : (decide (bits BinOp.or IntKind.u8 (c.toNat : Int) 32 ≤ 122)) = true := by rw [hx]; simp <;> omega
  clear hx h1 h2 hv
  go_enter Tryz.func40, Tryz.ntmps40
  go_wp2
  go_ret
  exact ⟨rfl, rfl⟩

set_option maxHeartbeats 1000000 in
set_option maxRecDepth 100000 in
theorem class_11 (c : UInt8) (w : World) (h1 : 11 ≤ c.toNat) (h2 : c.toNat ≤ 31) : Calls Tryz.prog 40 #[.int .u8 (c.toNat : Int)] w (RetI w (classN c)) := by
  have hv : classN c = 0 := by
    unfold classN letB
    simp only [marks_nat, decide_eq_true_eq]
    repeat' split
    all_goals omega
  rw [hv]
  have HI := index_is (c := c) (n := -1) (idx_no (by rw [marks_nat]; omega))
  have e32 : ((c.toNat : Int) == 32) = false := by simp <;> omega
  have e9 : ((c.toNat : Int) == 9) = false := by simp <;> omega
  have e10 : ((c.toNat : Int) == 10) = false := by simp <;> omega
  have e95 : ((c.toNat : Int) == 95) = false := by simp <;> omega
  have e45 : ((c.toNat : Int) == 45) = false := by simp <;> omega
  have e34 : ((c.toNat : Int) == 34) = false := by simp <;> omega
  have e35 : ((c.toNat : Int) == 35) = false := by simp <;> omega
  have p48 : (decide ((48 : Int) ≤ (c.toNat : Int))) = false := by simp <;> omega
  have p57 : (decide ((c.toNat : Int) ≤ 57)) = true := by simp <;> omega
  have hx : bits BinOp.or IntKind.u8 (c.toNat : Int) 32 = ((c.toNat + 32 : Nat) : Int) := by rw [bits_is (by omega), if_neg (by omega)]
  have p97 : (decide ((97 : Int) ≤ bits BinOp.or IntKind.u8 (c.toNat : Int) 32)) = false := by rw [hx]; simp <;> omega
  have p122 : (decide (bits BinOp.or IntKind.u8 (c.toNat : Int) 32 ≤ 122)) = true := by rw [hx]; simp <;> omega
  clear hx h1 h2 hv
  go_enter Tryz.func40, Tryz.ntmps40
  go_wp2_with fail
  refine (HI.out _).mono ?_
  rintro e w' ⟨rfl, rfl⟩
  go_wp2
  go_ret
  exact ⟨rfl, rfl⟩

set_option maxHeartbeats 1000000 in
set_option maxRecDepth 100000 in
theorem class_32 (c : UInt8) (w : World) (h1 : 32 ≤ c.toNat) (h2 : c.toNat ≤ 32) : Calls Tryz.prog 40 #[.int .u8 (c.toNat : Int)] w (RetI w (classN c)) := by
  have hv : classN c = 1 := by
    unfold classN letB
    simp only [marks_nat, decide_eq_true_eq]
    repeat' split
    all_goals omega
  rw [hv]
  have e32 : ((c.toNat : Int) == 32) = true := by simp <;> omega
  have e9 : ((c.toNat : Int) == 9) = false := by simp <;> omega
  have e10 : ((c.toNat : Int) == 10) = false := by simp <;> omega
  have e95 : ((c.toNat : Int) == 95) = false := by simp <;> omega
  have e45 : ((c.toNat : Int) == 45) = false := by simp <;> omega
  have e34 : ((c.toNat : Int) == 34) = false := by simp <;> omega
  have e35 : ((c.toNat : Int) == 35) = false := by simp <;> omega
  have p48 : (decide ((48 : Int) ≤ (c.toNat : Int))) = false := by simp <;> omega
  have p57 : (decide ((c.toNat : Int) ≤ 57)) = true := by simp <;> omega
  have hx : bits BinOp.or IntKind.u8 (c.toNat : Int) 32 = ((c.toNat : Nat) : Int) := by rw [bits_is (by omega), if_pos (by omega)]
  have p97 : (decide ((97 : Int) ≤ bits BinOp.or IntKind.u8 (c.toNat : Int) 32)) = false := by rw [hx]; simp <;> omega
  have p122 : (decide (bits BinOp.or IntKind.u8 (c.toNat : Int) 32 ≤ 122)) = true := by rw [hx]; simp <;> omega
  clear hx h1 h2 hv
  go_enter Tryz.func40, Tryz.ntmps40
  go_wp2
  go_ret
  exact ⟨rfl, rfl⟩

set_option maxHeartbeats 1000000 in
set_option maxRecDepth 100000 in
theorem class_33 (c : UInt8) (w : World) (h1 : 33 ≤ c.toNat) (h2 : c.toNat ≤ 33) : Calls Tryz.prog 40 #[.int .u8 (c.toNat : Int)] w (RetI w (classN c)) := by
  have hv : classN c = 0 := by
    unfold classN letB
    simp only [marks_nat, decide_eq_true_eq]
    repeat' split
    all_goals omega
  rw [hv]
  have HI := index_is (c := c) (n := -1) (idx_no (by rw [marks_nat]; omega))
  have e32 : ((c.toNat : Int) == 32) = false := by simp <;> omega
  have e9 : ((c.toNat : Int) == 9) = false := by simp <;> omega
  have e10 : ((c.toNat : Int) == 10) = false := by simp <;> omega
  have e95 : ((c.toNat : Int) == 95) = false := by simp <;> omega
  have e45 : ((c.toNat : Int) == 45) = false := by simp <;> omega
  have e34 : ((c.toNat : Int) == 34) = false := by simp <;> omega
  have e35 : ((c.toNat : Int) == 35) = false := by simp <;> omega
  have p48 : (decide ((48 : Int) ≤ (c.toNat : Int))) = false := by simp <;> omega
  have p57 : (decide ((c.toNat : Int) ≤ 57)) = true := by simp <;> omega
  have hx : bits BinOp.or IntKind.u8 (c.toNat : Int) 32 = ((c.toNat : Nat) : Int) := by rw [bits_is (by omega), if_pos (by omega)]
  have p97 : (decide ((97 : Int) ≤ bits BinOp.or IntKind.u8 (c.toNat : Int) 32)) = false := by rw [hx]; simp <;> omega
  have p122 : (decide (bits BinOp.or IntKind.u8 (c.toNat : Int) 32 ≤ 122)) = true := by rw [hx]; simp <;> omega
  clear hx h1 h2 hv
  go_enter Tryz.func40, Tryz.ntmps40
  go_wp2_with fail
  refine (HI.out _).mono ?_
  rintro e w' ⟨rfl, rfl⟩
  go_wp2
  go_ret
  exact ⟨rfl, rfl⟩

set_option maxHeartbeats 1000000 in
set_option maxRecDepth 100000 in
theorem class_34 (c : UInt8) (w : World) (h1 : 34 ≤ c.toNat) (h2 : c.toNat ≤ 34) : Calls Tryz.prog 40 #[.int .u8 (c.toNat : Int)] w (RetI w (classN c)) := by
  have hv : classN c = 6 := by
    unfold classN letB
    simp only [marks_nat, decide_eq_true_eq]
    repeat' split
    all_goals omega
  rw [hv]
  have HI := index_is (c := c) (n := -1) (idx_no (by rw [marks_nat]; omega))
  have e32 : ((c.toNat : Int) == 32) = false := by simp <;> omega
  have e9 : ((c.toNat : Int) == 9) = false := by simp <;> omega
  have e10 : ((c.toNat : Int) == 10) = false := by simp <;> omega
  have e95 : ((c.toNat : Int) == 95) = false := by simp <;> omega
  have e45 : ((c.toNat : Int) == 45) = false := by simp <;> omega
  have e34 : ((c.toNat : Int) == 34) = true := by simp <;> omega
  have e35 : ((c.toNat : Int) == 35) = false := by simp <;> omega
  have p48 : (decide ((48 : Int) ≤ (c.toNat : Int))) = false := by simp <;> omega
  have p57 : (decide ((c.toNat : Int) ≤ 57)) = true := by simp <;> omega
  have hx : bits BinOp.or IntKind.u8 (c.toNat : Int) 32 = ((c.toNat : Nat) : Int) := by rw [bits_is (by omega), if_pos (by omega)]
  have p97 : (decide ((97 : Int) ≤ bits BinOp.or IntKind.u8 (c.toNat : Int) 32)) = false := by rw [hx]; simp <;> omega
  have p122 : (decide (bits BinOp.or IntKind.u8 (c.toNat : Int) 32 ≤ 122)) = true := by rw [hx]; simp <;> omega
  clear hx h1 h2 hv
  go_enter Tryz.func40, Tryz.ntmps40
  go_wp2_with fail
  refine (HI.out _).mono ?_
  rintro e w' ⟨rfl, rfl⟩
  go_wp2
  go_ret
  exact ⟨rfl, rfl⟩

set_option maxHeartbeats 1000000 in
set_option maxRecDepth 100000 in
theorem class_35 (c : UInt8) (w : World) (h1 : 35 ≤ c.toNat) (h2 : c.toNat ≤ 35) : Calls Tryz.prog 40 #[.int .u8 (c.toNat : Int)] w (RetI w (classN c)) := by
  have hv : classN c = 7 := by
    unfold classN letB
    simp only [marks_nat, decide_eq_true_eq]
    repeat' split
    all_goals omega
  rw [hv]
  have HI := index_is (c := c) (n := -1) (idx_no (by rw [marks_nat]; omega))
  have e32 : ((c.toNat : Int) == 32) = false := by simp <;> omega
  have e9 : ((c.toNat : Int) == 9) = false := by simp <;> omega
  have e10 : ((c.toNat : Int) == 10) = false := by simp <;> omega
  have e95 : ((c.toNat : Int) == 95) = false := by simp <;> omega
  have e45 : ((c.toNat : Int) == 45) = false := by simp <;> omega
  have e34 : ((c.toNat : Int) == 34) = false := by simp <;> omega
  have e35 : ((c.toNat : Int) == 35) = true := by simp <;> omega
  have p48 : (decide ((48 : Int) ≤ (c.toNat : Int))) = false := by simp <;> omega
  have p57 : (decide ((c.toNat : Int) ≤ 57)) = true := by simp <;> omega
  have hx : bits BinOp.or IntKind.u8 (c.toNat : Int) 32 = ((c.toNat : Nat) : Int) := by rw [bits_is (by omega), if_pos (by omega)]
  have p97 : (decide ((97 : Int) ≤ bits BinOp.or IntKind.u8 (c.toNat : Int) 32)) = false := by rw [hx]; simp <;> omega
  have p122 : (decide (bits BinOp.or IntKind.u8 (c.toNat : Int) 32 ≤ 122)) = true := by rw [hx]; simp <;> omega
  clear hx h1 h2 hv
  go_enter Tryz.func40, Tryz.ntmps40
  go_wp2_with fail
  refine (HI.out _).mono ?_
  rintro e w' ⟨rfl, rfl⟩
  go_wp2
  go_ret
  exact ⟨rfl, rfl⟩

set_option maxHeartbeats 1000000 in
set_option maxRecDepth 100000 in
theorem class_36 (c : UInt8) (w : World) (h1 : 36 ≤ c.toNat) (h2 : c.toNat ≤ 39) : Calls Tryz.prog 40 #[.int .u8 (c.toNat : Int)] w (RetI w (classN c)) := by
  have hv : classN c = 0 := by
    unfold classN letB
    simp only [marks_nat, decide_eq_true_eq]
    repeat' split
    all_goals omega
  rw [hv]
  have HI := index_is (c := c) (n := -1) (idx_no (by rw [marks_nat]; omega))
  have e32 : ((c.toNat : Int) == 32) = false := by simp <;> omega
  have e9 : ((c.toNat : Int) == 9) = false := by simp <;> omega
  have e10 : ((c.toNat : Int) == 10) = false := by simp <;> omega
  have e95 : ((c.toNat : Int) == 95) = false := by simp <;> omega
  have e45 : ((c.toNat : Int) == 45) = false := by simp <;> omega
  have e34 : ((c.toNat : Int) == 34) = false := by simp <;> omega
  have e35 : ((c.toNat : Int) == 35) = false := by simp <;> omega
  have p48 : (decide ((48 : Int) ≤ (c.toNat : Int))) = false := by simp <;> omega
  have p57 : (decide ((c.toNat : Int) ≤ 57)) = true := by simp <;> omega
  have hx : bits BinOp.or IntKind.u8 (c.toNat : Int) 32 = ((c.toNat : Nat) : Int) := by rw [bits_is (by omega), if_pos (by omega)]
  have p97 : (decide ((97 : Int) ≤ bits BinOp.or IntKind.u8 (c.toNat : Int) 32)) = false := by rw [hx]; simp <;> omega
  have p122 : (decide (bits BinOp.or IntKind.u8 (c.toNat : Int) 32 ≤ 122)) = true := by rw [hx]; simp <;> omega
  clear hx h1 h2 hv
  go_enter Tryz.func40, Tryz.ntmps40
  go_wp2_with fail
  refine (HI.out _).mono ?_
  rintro e w' ⟨rfl, rfl⟩
  go_wp2
  go_ret
  exact ⟨rfl, rfl⟩

set_option maxHeartbeats 1000000 in
set_option maxRecDepth 100000 in
theorem class_40 (c : UInt8) (w : World) (h1 : 40 ≤ c.toNat) (h2 : c.toNat ≤ 40) : Calls Tryz.prog 40 #[.int .u8 (c.toNat : Int)] w (RetI w (classN c)) := by
  have hv : classN c = 5 := by
    unfold classN letB
    simp only [marks_nat, decide_eq_true_eq]
    repeat' split
    all_goals omega
  rw [hv]
  have HI := index_is (c := c) (n := 0) (by
    have : c = 40 := UInt8.toNat_inj.1 (by show c.toNat = 40; omega)
    rw [this]; rfl)
  have e32 : ((c.toNat : Int) == 32) = false := by simp <;> omega
  have e9 : ((c.toNat : Int) == 9) = false := by simp <;> omega
  have e10 : ((c.toNat : Int) == 10) = false := by simp <;> omega
  have e95 : ((c.toNat : Int) == 95) = false := by simp <;> omega
  have e45 : ((c.toNat : Int) == 45) = false := by simp <;> omega
  have e34 : ((c.toNat : Int) == 34) = false := by simp <;> omega
  have e35 : ((c.toNat : Int) == 35) = false := by simp <;> omega
  have p48 : (decide ((48 : Int) ≤ (c.toNat : Int))) = false := by simp <;> omega
  have p57 : (decide ((c.toNat : Int) ≤ 57)) = true := by simp <;> omega
  have hx : bits BinOp.or IntKind.u8 (c.toNat : Int) 32 = ((c.toNat : Nat) : Int) := by rw [bits_is (by omega), if_pos (by omega)]
  have p97 : (decide ((97 : Int) ≤ bits BinOp.or IntKind.u8 (c.toNat : Int) 32)) = false := by rw [hx]; simp <;> omega
  have p122 : (decide (bits BinOp.or IntKind.u8 (c.toNat : Int) 32 ≤ 122)) = true := by rw [hx]; simp <;> omega
  clear hx h1 h2 hv
  go_enter Tryz.func40, Tryz.ntmps40
  go_wp2_with fail
  refine (HI.out _).mono ?_
  rintro e w' ⟨rfl, rfl⟩
  go_wp2
  go_ret
  exact ⟨rfl, rfl⟩

set_option maxHeartbeats 1000000 in
set_option maxRecDepth 100000 in
theorem class_41 (c : UInt8) (w : World) (h1 : 41 ≤ c.toNat) (h2 : c.toNat ≤ 41) : Calls Tryz.prog 40 #[.int .u8 (c.toNat : Int)] w (RetI w (classN c)) := by
  have hv : classN c = 5 := by
    unfold classN letB
    simp only [marks_nat, decide_eq_true_eq]
    repeat' split
    all_goals omega
  rw [hv]
  have HI := index_is (c := c) (n := 1) (by
    have : c = 41 := UInt8.toNat_inj.1 (by show c.toNat = 41; omega)
    rw [this]; rfl)
  have e32 : ((c.toNat : Int) == 32) = false := by simp <;> omega
  have e9 : ((c.toNat : Int) == 9) = false := by simp <;> omega
  have e10 : ((c.toNat : Int) == 10) = false := by simp <;> omega
  have e95 : ((c.toNat : Int) == 95) = false := by simp <;> omega
  have e45 : ((c.toNat : Int) == 45) = false := by simp <;> omega
  have e34 : ((c.toNat : Int) == 34) = false := by simp <;> omega
  have e35 : ((c.toNat : Int) == 35) = false := by simp <;> omega
  have p48 : (decide ((48 : Int) ≤ (c.toNat : Int))) = false := by simp <;> omega
  have p57 : (decide ((c.toNat : Int) ≤ 57)) = true := by simp <;> omega
  have hx : bits BinOp.or IntKind.u8 (c.toNat : Int) 32 = ((c.toNat : Nat) : Int) := by rw [bits_is (by omega), if_pos (by omega)]
  have p97 : (decide ((97 : Int) ≤ bits BinOp.or IntKind.u8 (c.toNat : Int) 32)) = false := by rw [hx]; simp <;> omega
  have p122 : (decide (bits BinOp.or IntKind.u8 (c.toNat : Int) 32 ≤ 122)) = true := by rw [hx]; simp <;> omega
  clear hx h1 h2 hv
  go_enter Tryz.func40, Tryz.ntmps40
  go_wp2_with fail
  refine (HI.out _).mono ?_
  rintro e w' ⟨rfl, rfl⟩
  go_wp2
  go_ret
  exact ⟨rfl, rfl⟩

set_option maxHeartbeats 1000000 in
set_option maxRecDepth 100000 in
theorem class_42 (c : UInt8) (w : World) (h1 : 42 ≤ c.toNat) (h2 : c.toNat ≤ 42) : Calls Tryz.prog 40 #[.int .u8 (c.toNat : Int)] w (RetI w (classN c)) := by
  have hv : classN c = 5 := by
    unfold classN letB
    simp only [marks_nat, decide_eq_true_eq]
    repeat' split
    all_goals omega
  rw [hv]
  have HI := index_is (c := c) (n := 8) (by
    have : c = 42 := UInt8.toNat_inj.1 (by show c.toNat = 42; omega)
    rw [this]; rfl)
  have e32 : ((c.toNat : Int) == 32) = false := by simp <;> omega
  have e9 : ((c.toNat : Int) == 9) = false := by simp <;> omega
  have e10 : ((c.toNat : Int) == 10) = false := by simp <;> omega
  have e95 : ((c.toNat : Int) == 95) = false := by simp <;> omega
  have e45 : ((c.toNat : Int) == 45) = false := by simp <;> omega
  have e34 : ((c.toNat : Int) == 34) = false := by simp <;> omega
  have e35 : ((c.toNat : Int) == 35) = false := by simp <;> omega
  have p48 : (decide ((48 : Int) ≤ (c.toNat : Int))) = false := by simp <;> omega
  have p57 : (decide ((c.toNat : Int) ≤ 57)) = true := by simp <;> omega
  have hx : bits BinOp.or IntKind.u8 (c.toNat : Int) 32 = ((c.toNat : Nat) : Int) := by rw [bits_is (by omega), if_pos (by omega)]
  have p97 : (decide ((97 : Int) ≤ bits BinOp.or IntKind.u8 (c.toNat : Int) 32)) = false := by rw [hx]; simp <;> omega
  have p122 : (decide (bits BinOp.or IntKind.u8 (c.toNat : Int) 32 ≤ 122)) = true := by rw [hx]; simp <;> omega
  clear hx h1 h2 hv
  go_enter Tryz.func40, Tryz.ntmps40
  go_wp2_with fail
  refine (HI.out _).mono ?_
  rintro e w' ⟨rfl, rfl⟩
  go_wp2
  go_ret
  exact ⟨rfl, rfl⟩

set_option maxHeartbeats 1000000 in
set_option maxRecDepth 100000 in
theorem class_43 (c : UInt8) (w : World) (h1 : 43 ≤ c.toNat) (h2 : c.toNat ≤ 43) : Calls Tryz.prog 40 #[.int .u8 (c.toNat : Int)] w (RetI w (classN c)) := by
  have hv : classN c = 5 := by
    unfold classN letB
    simp only [marks_nat, decide_eq_true_eq]
    repeat' split
    all_goals omega
  rw [hv]
  have HI := index_is (c := c) (n := 7) (by
    have : c = 43 := UInt8.toNat_inj.1 (by show c.toNat = 43; omega)
    rw [this]; rfl)
  have e32 : ((c.toNat : Int) == 32) = false := by simp <;> omega
  have e9 : ((c.toNat : Int) == 9) = false := by simp <;> omega
  have e10 : ((c.toNat : Int) == 10) = false := by simp <;> omega
  have e95 : ((c.toNat : Int) == 95) = false := by simp <;> omega
  have e45 : ((c.toNat : Int) == 45) = false := by simp <;> omega
  have e34 : ((c.toNat : Int) == 34) = false := by simp <;> omega
  have e35 : ((c.toNat : Int) == 35) = false := by simp <;> omega
  have p48 : (decide ((48 : Int) ≤ (c.toNat : Int))) = false := by simp <;> omega
  have p57 : (decide ((c.toNat : Int) ≤ 57)) = true := by simp <;> omega
  have hx : bits BinOp.or IntKind.u8 (c.toNat : Int) 32 = ((c.toNat : Nat) : Int) := by rw [bits_is (by omega), if_pos (by omega)]
  have p97 : (decide ((97 : Int) ≤ bits BinOp.or IntKind.u8 (c.toNat : Int) 32)) = false := by rw [hx]; simp <;> omega
  have p122 : (decide (bits BinOp.or IntKind.u8 (c.toNat : Int) 32 ≤ 122)) = true := by rw [hx]; simp <;> omega
  clear hx h1 h2 hv
  go_enter Tryz.func40, Tryz.ntmps40
  go_wp2_with fail
  refine (HI.out _).mono ?_
  rintro e w' ⟨rfl, rfl⟩
  go_wp2
  go_ret
  exact ⟨rfl, rfl⟩

set_option maxHeartbeats 1000000 in
set_option maxRecDepth 100000 in
theorem class_44 (c : UInt8) (w : World) (h1 : 44 ≤ c.toNat) (h2 : c.toNat ≤ 44) : Calls Tryz.prog 40 #[.int .u8 (c.toNat : Int)] w (RetI w (classN c)) := by
  have hv : classN c = 5 := by
    unfold classN letB
    simp only [marks_nat, decide_eq_true_eq]
    repeat' split
    all_goals omega
  rw [hv]
  have HI := index_is (c := c) (n := 4) (by
    have : c = 44 := UInt8.toNat_inj.1 (by show c.toNat = 44; omega)
    rw [this]; rfl)
  have e32 : ((c.toNat : Int) == 32) = false := by simp <;> omega
  have e9 : ((c.toNat : Int) == 9) = false := by simp <;> omega
  have e10 : ((c.toNat : Int) == 10) = false := by simp <;> omega
  have e95 : ((c.toNat : Int) == 95) = false := by simp <;> omega
  have e45 : ((c.toNat : Int) == 45) = false := by simp <;> omega
  have e34 : ((c.toNat : Int) == 34) = false := by simp <;> omega
  have e35 : ((c.toNat : Int) == 35) = false := by simp <;> omega
  have p48 : (decide ((48 : Int) ≤ (c.toNat : Int))) = false := by simp <;> omega
  have p57 : (decide ((c.toNat : Int) ≤ 57)) = true := by simp <;> omega
  have hx : bits BinOp.or IntKind.u8 (c.toNat : Int) 32 = ((c.toNat : Nat) : Int) := by rw [bits_is (by omega), if_pos (by omega)]
  have p97 : (decide ((97 : Int) ≤ bits BinOp.or IntKind.u8 (c.toNat : Int) 32)) = false := by rw [hx]; simp <;> omega
  have p122 : (decide (bits BinOp.or IntKind.u8 (c.toNat : Int) 32 ≤ 122)) = true := by rw [hx]; simp <;> omega
  clear hx h1 h2 hv
  go_enter Tryz.func40, Tryz.ntmps40
  go_wp2_with fail
  refine (HI.out _).mono ?_
  rintro e w' ⟨rfl, rfl⟩
  go_wp2
  go_ret
  exact ⟨rfl, rfl⟩

set_option maxHeartbeats 1000000 in
set_option maxRecDepth 100000 in
theorem class_45 (c : UInt8) (w : World) (h1 : 45 ≤ c.toNat) (h2 : c.toNat ≤ 45) : Calls Tryz.prog 40 #[.int .u8 (c.toNat : Int)] w (RetI w (classN c)) := by
  have hv : classN c = 4 := by
    unfold classN letB
    simp only [marks_nat, decide_eq_true_eq]
    repeat' split
    all_goals omega
  rw [hv]
  have e32 : ((c.toNat : Int) == 32) = false := by simp <;> omega
  have e9 : ((c.toNat : Int) == 9) = false := by simp <;> omega
  have e10 : ((c.toNat : Int) == 10) = false := by simp <;> omega
  have e95 : ((c.toNat : Int) == 95) = false := by simp <;> omega
  have e45 : ((c.toNat : Int) == 45) = true := by simp <;> omega
  have e34 : ((c.toNat : Int) == 34) = false := by simp <;> omega
  have e35 : ((c.toNat : Int) == 35) = false := by simp <;> omega
  have p48 : (decide ((48 : Int) ≤ (c.toNat : Int))) = false := by simp <;> omega
  have p57 : (decide ((c.toNat : Int) ≤ 57)) = true := by simp <;> omega
  have hx : bits BinOp.or IntKind.u8 (c.toNat : Int) 32 = ((c.toNat : Nat) : Int) := by rw [bits_is (by omega), if_pos (by omega)]
  have p97 : (decide ((97 : Int) ≤ bits BinOp.or IntKind.u8 (c.toNat : Int) 32)) = false := by rw [hx]; simp <;> omega
  have p122 : (decide (bits BinOp.or IntKind.u8 (c.toNat : Int) 32 ≤ 122)) = true := by rw [hx]; simp <;> omega
  clear hx h1 h2 hv
  go_enter Tryz.func40, Tryz.ntmps40
  go_wp2
  go_ret
  exact ⟨rfl, rfl⟩

set_option maxHeartbeats 1000000 in
set_option maxRecDepth 100000 in
theorem class_46 (c : UInt8) (w : World) (h1 : 46 ≤ c.toNat) (h2 : c.toNat ≤ 47) : Calls Tryz.prog 40 #[.int .u8 (c.toNat : Int)] w (RetI w (classN c)) := by
  have hv : classN c = 0 := by
    unfold classN letB
    simp only [marks_nat, decide_eq_true_eq]
    repeat' split
    all_goals omega
  rw [hv]
  have HI := index_is (c := c) (n := -1) (idx_no (by rw [marks_nat]; omega))
  have e32 : ((c.toNat : Int) == 32) = false := by simp <;> omega
  have e9 : ((c.toNat : Int) == 9) = false := by simp <;> omega
  have e10 : ((c.toNat : Int) == 10) = false := by simp <;> omega
  have e95 : ((c.toNat : Int) == 95) = false := by simp <;> omega
  have e45 : ((c.toNat : Int) == 45) = false := by simp <;> omega
  have e34 : ((c.toNat : Int) == 34) = false := by simp <;> omega
  have e35 : ((c.toNat : Int) == 35) = false := by simp <;> omega
  have p48 : (decide ((48 : Int) ≤ (c.toNat : Int))) = false := by simp <;> omega
  have p57 : (decide ((c.toNat : Int) ≤ 57)) = true := by simp <;> omega
  have hx : bits BinOp.or IntKind.u8 (c.toNat : Int) 32 = ((c.toNat : Nat) : Int) := by rw [bits_is (by omega), if_pos (by omega)]
  have p97 : (decide ((97 : Int) ≤ bits BinOp.or IntKind.u8 (c.toNat : Int) 32)) = false := by rw [hx]; simp <;> omega
  have p122 : (decide (bits BinOp.or IntKind.u8 (c.toNat : Int) 32 ≤ 122)) = true := by rw [hx]; simp <;> omega
  clear hx h1 h2 hv
  go_enter Tryz.func40, Tryz.ntmps40
  go_wp2_with fail
  refine (HI.out _).mono ?_
  rintro e w' ⟨rfl, rfl⟩
  go_wp2
  go_ret
  exact ⟨rfl, rfl⟩

set_option maxHeartbeats 1000000 in
set_option maxRecDepth 100000 in
theorem class_48 (c : UInt8) (w : World) (h1 : 48 ≤ c.toNat) (h2 : c.toNat ≤ 57) : Calls Tryz.prog 40 #[.int .u8 (c.toNat : Int)] w (RetI w (classN c)) := by
  have hv : classN c = 2 := by
    unfold classN letB
    simp only [marks_nat, decide_eq_true_eq]
    repeat' split
    all_goals omega
  rw [hv]
  have e32 : ((c.toNat : Int) == 32) = false := by simp <;> omega
  have e9 : ((c.toNat : Int) == 9) = false := by simp <;> omega
  have e10 : ((c.toNat : Int) == 10) = false := by simp <;> omega
  have e95 : ((c.toNat : Int) == 95) = false := by simp <;> omega
  have e45 : ((c.toNat : Int) == 45) = false := by simp <;> omega
  have e34 : ((c.toNat : Int) == 34) = false := by simp <;> omega
  have e35 : ((c.toNat : Int) == 35) = false := by simp <;> omega
  have p48 : (decide ((48 : Int) ≤ (c.toNat : Int))) = true := by simp <;> omega
  have p57 : (decide ((c.toNat : Int) ≤ 57)) = true := by simp <;> omega
  have hx : bits BinOp.or IntKind.u8 (c.toNat : Int) 32 = ((c.toNat : Nat) : Int) := by rw [bits_is (by omega), if_pos (by omega)]
  have p97 : (decide ((97 : Int) ≤ bits BinOp.or IntKind.u8 (c.toNat : Int) 32)) = false := by rw [hx]; simp <;> omega
  have p122 : (decide (bits BinOp.or IntKind.u8 (c.toNat : Int) 32 ≤ 122)) = true := by rw [hx]; simp <;> omega
  clear hx h1 h2 hv
  go_enter Tryz.func40, Tryz.ntmps40
  go_wp2
  go_ret
  exact ⟨rfl, rfl⟩

set_option maxHeartbeats 1000000 in
set_option maxRecDepth 100000 in
theorem class_58 (c : UInt8) (w : World) (h1 : 58 ≤ c.toNat) (h2 : c.toNat ≤ 58) : Calls Tryz.prog 40 #[.int .u8 (c.toNat : Int)] w (RetI w (classN c)) := by
  have hv : classN c = 0 := by
    unfold classN letB
    simp only [marks_nat, decide_eq_true_eq]
    repeat' split
    all_goals omega
  rw [hv]
  have HI := index_is (c := c) (n := -1) (idx_no (by rw [marks_nat]; omega))
  have e32 : ((c.toNat : Int) == 32) = false := by simp <;> omega
  have e9 : ((c.toNat : Int) == 9) = false := by simp <;> omega
  have e10 : ((c.toNat : Int) == 10) = false := by simp <;> omega
  have e95 : ((c.toNat : Int) == 95) = false := by simp <;> omega
  have e45 : ((c.toNat : Int) == 45) = false := by simp <;> omega
  have e34 : ((c.toNat : Int) == 34) = false := by simp <;> omega
  have e35 : ((c.toNat : Int) == 35) = false := by simp <;> omega
  have p48 : (decide ((48 : Int) ≤ (c.toNat : Int))) = true := by simp <;> omega
  have p57 : (decide ((c.toNat : Int) ≤ 57)) = false := by simp <;> omega
  have hx : bits BinOp.or IntKind.u8 (c.toNat : Int) 32 = ((c.toNat : Nat) : Int) := by rw [bits_is (by omega), if_pos (by omega)]
  have p97 : (decide ((97 : Int) ≤ bits BinOp.or IntKind.u8 (c.toNat : Int) 32)) = false := by rw [hx]; simp <;> omega
  have p122 : (decide (bits BinOp.or IntKind.u8 (c.toNat : Int) 32 ≤ 122)) = true := by rw [hx]; simp <;> omega
  clear hx h1 h2 hv
  go_enter Tryz.func40, Tryz.ntmps40
  go_wp2_with fail
  refine (HI.out _).mono ?_
  rintro e w' ⟨rfl, rfl⟩
  go_wp2
  go_ret
  exact ⟨rfl, rfl⟩

set_option maxHeartbeats 1000000 in
set_option maxRecDepth 100000 in
theorem class_59 (c : UInt8) (w : World) (h1 : 59 ≤ c.toNat) (h2 : c.toNat ≤ 59) : Calls Tryz.prog 40 #[.int .u8 (c.toNat : Int)] w (RetI w (classN c)) := by
  have hv : classN c = 5 := by
    unfold classN letB
    simp only [marks_nat, decide_eq_true_eq]
    repeat' split
    all_goals omega
  rw [hv]
  have HI := index_is (c := c) (n := 5) (by
    have : c = 59 := UInt8.toNat_inj.1 (by show c.toNat = 59; omega)
    rw [this]; rfl)
  have e32 : ((c.toNat : Int) == 32) = false := by simp <;> omega
  have e9 : ((c.toNat : Int) == 9) = false := by simp <;> omega
  have e10 : ((c.toNat : Int) == 10) = false := by simp <;> omega
  have e95 : ((c.toNat : Int) == 95) = false := by simp <;> omega
  have e45 : ((c.toNat : Int) == 45) = false := by simp <;> omega
  have e34 : ((c.toNat : Int) == 34) = false := by simp <;> omega
  have e35 : ((c.toNat : Int) == 35) = false := by simp <;> omega
  have p48 : (decide ((48 : Int) ≤ (c.toNat : Int))) = true := by simp <;> omega
  have p57 : (decide ((c.toNat : Int) ≤ 57)) = false := by simp <;> omega
  have hx : bits BinOp.or IntKind.u8 (c.toNat : Int) 32 = ((c.toNat : Nat) : Int) := by rw [bits_is (by omega), if_pos (by omega)]
  have p97 : (decide ((97 : Int) ≤ bits BinOp.or IntKind.u8 (c.toNat : Int) 32)) = false := by rw [hx]; simp <;> omega
  have p122 : (decide (bits BinOp.or IntKind.u8 (c.toNat : Int) 32 ≤ 122)) = true := by rw [hx]; simp <;> omega
  clear hx h1 h2 hv
  go_enter Tryz.func40, Tryz.ntmps40
  go_wp2_with fail
  refine (HI.out _).mono ?_
  rintro e w' ⟨rfl, rfl⟩
  go_wp2
  go_ret
  exact ⟨rfl, rfl⟩

set_option maxHeartbeats 1000000 in
set_option maxRecDepth 100000 in
theorem class_60 (c : UInt8) (w : World) (h1 : 60 ≤ c.toNat) (h2 : c.toNat ≤ 63) : Calls Tryz.prog 40 #[.int .u8 (c.toNat : Int)] w (RetI w (classN c)) := by
  have hv : classN c = 0 := by
    unfold classN letB
    simp only [marks_nat, decide_eq_true_eq]
    repeat' split
    all_goals omega
  rw [hv]
  have HI := index_is (c := c) (n := -1) (idx_no (by rw [marks_nat]; omega))
  have e32 : ((c.toNat : Int) == 32) = false := by simp <;> omega
  have e9 : ((c.toNat : Int) == 9) = false := by simp <;> omega
  have e10 : ((c.toNat : Int) == 10) = false := by simp <;> omega
  have e95 : ((c.toNat : Int) == 95) = false := by simp <;> omega
  have e45 : ((c.toNat : Int) == 45) = false := by simp <;> omega
  have e34 : ((c.toNat : Int) == 34) = false := by simp <;> omega
  have e35 : ((c.toNat : Int) == 35) = false := by simp <;> omega
  have p48 : (decide ((48 : Int) ≤ (c.toNat : Int))) = true := by simp <;> omega
  have p57 : (decide ((c.toNat : Int) ≤ 57)) = false := by simp <;> omega
  have hx : bits BinOp.or IntKind.u8 (c.toNat : Int) 32 = ((c.toNat : Nat) : Int) := by rw [bits_is (by omega), if_pos (by omega)]
  have p97 : (decide ((97 : Int) ≤ bits BinOp.or IntKind.u8 (c.toNat : Int) 32)) = false := by rw [hx]; simp <;> omega
  have p122 : (decide (bits BinOp.or IntKind.u8 (c.toNat : Int) 32 ≤ 122)) = true := by rw [hx]; simp <;> omega
  clear hx h1 h2 hv
  go_enter Tryz.func40, Tryz.ntmps40
  go_wp2_with fail
  refine (HI.out _).mono ?_
  rintro e w' ⟨rfl, rfl⟩
  go_wp2
  go_ret
  exact ⟨rfl, rfl⟩

set_option maxHeartbeats 1000000 in
set_option maxRecDepth 100000 in
theorem class_64 (c : UInt8) (w : World) (h1 : 64 ≤ c.toNat) (h2 : c.toNat ≤ 64) : Calls Tryz.prog 40 #[.int .u8 (c.toNat : Int)] w (RetI w (classN c)) := by
  have hv : classN c = 5 := by
    unfold classN letB
    simp only [marks_nat, decide_eq_true_eq]
    repeat' split
    all_goals omega
  rw [hv]
  have HI := index_is (c := c) (n := 6) (by
    have : c = 64 := UInt8.toNat_inj.1 (by show c.toNat = 64; omega)
    rw [this]; rfl)
  have e32 : ((c.toNat : Int) == 32) = false := by simp <;> omega
  have e9 : ((c.toNat : Int) == 9) = false := by simp <;> omega
  have e10 : ((c.toNat : Int) == 10) = false := by simp <;> omega
  have e95 : ((c.toNat : Int) == 95) = false := by simp <;> omega
  have e45 : ((c.toNat : Int) == 45) = false := by simp <;> omega
  have e34 : ((c.toNat : Int) == 34) = false := by simp <;> omega
  have e35 : ((c.toNat : Int) == 35) = false := by simp <;> omega
  have p48 : (decide ((48 : Int) ≤ (c.toNat : Int))) = true := by simp <;> omega
  have p57 : (decide ((c.toNat : Int) ≤ 57)) = false := by simp <;> omega
  have hx : bits BinOp.or IntKind.u8 (c.toNat : Int) 32 = ((c.toNat + 32 : Nat) : Int) := by rw [bits_is (by omega), if_neg (by omega)]
  have p97 : (decide ((97 : Int) ≤ bits BinOp.or IntKind.u8 (c.toNat : Int) 32)) = false := by rw [hx]; simp <;> omega
  have p122 : (decide (bits BinOp.or IntKind.u8 (c.toNat : Int) 32 ≤ 122)) = true := by rw [hx]; simp <;> omega
  clear hx h1 h2 hv
  go_enter Tryz.func40, Tryz.ntmps40
  go_wp2_with fail
  refine (HI.out _).mono ?_
  rintro e w' ⟨rfl, rfl⟩
  go_wp2
  go_ret
  exact ⟨rfl, rfl⟩

set_option maxHeartbeats 1000000 in
set_option maxRecDepth 100000 in
theorem class_65 (c : UInt8) (w : World) (h1 : 65 ≤ c.toNat) (h2 : c.toNat ≤ 90) : Calls Tryz.prog 40 #[.int .u8 (c.toNat : Int)] w (RetI w (classN c)) := by
  have hv : classN c = 3 := by
    unfold classN letB
    simp only [marks_nat, decide_eq_true_eq]
    repeat' split
    all_goals omega
  rw [hv]
  have e32 : ((c.toNat : Int) == 32) = false := by simp <;> omega
  have e9 : ((c.toNat : Int) == 9) = false := by simp <;> omega
  have e10 : ((c.toNat : Int) == 10) = false := by simp <;> omega
  have e95 : ((c.toNat : Int) == 95) = false := by simp <;> omega
  have e45 : ((c.toNat : Int) == 45) = false := by simp <;> omega
  have e34 : ((c.toNat : Int) == 34) = false := by simp <;> omega
  have e35 : ((c.toNat : Int) == 35) = false := by simp <;> omega
  have p48 : (decide ((48 : Int) ≤ (c.toNat : Int))) = true := by simp <;> omega
  have p57 : (decide ((c.toNat : Int) ≤ 57)) = false := by simp <;> omega
  have hx : bits BinOp.or IntKind.u8 (c.toNat : Int) 32 = ((c.toNat + 32 : Nat) : Int) := by rw [bits_is (by omega), if_neg (by omega)]
  have p97 : (decide ((97 : Int) ≤ bits BinOp.or IntKind.u8 (c.toNat : Int) 32)) = true := by rw [hx]; simp <;> omega
  have p122 : (decide (bits BinOp.or IntKind.u8 (c.toNat : Int) 32 ≤ 122)) = true := by rw [hx]; simp <;> omega
  clear hx h1 h2 hv
  go_enter Tryz.func40, Tryz.ntmps40
  go_wp2
  go_ret
  exact ⟨rfl, rfl⟩

set_option maxHeartbeats 1000000 in
set_option maxRecDepth 100000 in
theorem class_91 (c : UInt8) (w : World) (h1 : 91 ≤ c.toNat) (h2 : c.toNat ≤ 94) : Calls Tryz.prog 40 #[.int .u8 (c.toNat : Int)] w (RetI w (classN c)) := by
  have hv : classN c = 0 := by
    unfold classN letB
    simp only [marks_nat, decide_eq_true_eq]
    repeat' split
    all_goals omega
  rw [hv]
  have HI := index_is (c := c) (n := -1) (idx_no (by rw [marks_nat]; omega))
  have e32 : ((c.toNat : Int) == 32) = false := by simp <;> omega
  have e9 : ((c.toNat : Int) == 9) = false := by simp <;> omega
  have e10 : ((c.toNat : Int) == 10) = false := by simp <;> omega
  have e95 : ((c.toNat : Int) == 95) = false := by simp <;> omega
  have e45 : ((c.toNat : Int) == 45) = false := by simp <;> omega
  have e34 : ((c.toNat : Int) == 34) = false := by simp <;> omega
  have e35 : ((c.toNat : Int) == 35) = false := by simp <;> omega
  have p48 : (decide ((48 : Int) ≤ (c.toNat : Int))) = true := by simp <;> omega
  have p57 : (decide ((c.toNat : Int) ≤ 57)) = false := by simp <;> omega
  have hx : bits BinOp.or IntKind.u8 (c.toNat : Int) 32 = ((c.toNat + 32 : Nat) : Int) := by rw [bits_is (by omega), if_neg (by omega)]
  have p97 : (decide ((97 : Int) ≤ bits BinOp.or IntKind.u8 (c.toNat : Int) 32)) = true := by rw [hx]; simp <;> omega
  have p122 : (decide (bits BinOp.or IntKind.u8 (c.toNat : Int) 32 ≤ 122)) = false := by rw [hx]; simp <;> omega
  clear hx h1 h2 hv
  go_enter Tryz.func40, Tryz.ntmps40
  go_wp2_with fail
  refine (HI.out _).mono ?_
  rintro e w' ⟨rfl, rfl⟩
  go_wp2
  go_ret
  exact ⟨rfl, rfl⟩

set_option maxHeartbeats 1000000 in
set_option maxRecDepth 100000 in
theorem class_95 (c : UInt8) (w : World) (h1 : 95 ≤ c.toNat) (h2 : c.toNat ≤ 95) : Calls Tryz.prog 40 #[.int .u8 (c.toNat : Int)] w (RetI w (classN c)) := by
  have hv : classN c = 4 := by
    unfold classN letB
    simp only [marks_nat, decide_eq_true_eq]
    repeat' split
    all_goals omega
  rw [hv]
  have e32 : ((c.toNat : Int) == 32) = false := by simp <;> omega
  have e9 : ((c.toNat : Int) == 9) = false := by simp <;> omega
  have e10 : ((c.toNat : Int) == 10) = false := by simp <;> omega
  have e95 : ((c.toNat : Int) == 95) = true := by simp <;> omega
  have e45 : ((c.toNat : Int) == 45) = false := by simp <;> omega
  have e34 : ((c.toNat : Int) == 34) = false := by simp <;> omega
  have e35 : ((c.toNat : Int) == 35) = false := by simp <;> omega
  have p48 : (decide ((48 : Int) ≤ (c.toNat : Int))) = true := by simp <;> omega
  have p57 : (decide ((c.toNat : Int) ≤ 57)) = false := by simp <;> omega
  have hx : bits BinOp.or IntKind.u8 (c.toNat : Int) 32 = ((c.toNat + 32 : Nat) : Int) := by rw [bits_is (by omega), if_neg (by omega)]
  have p97 : (decide ((97 : Int) ≤ bits BinOp.or IntKind.u8 (c.toNat : Int) 32)) = true := by rw [hx]; simp <;> omega
  have p122 : (decide (bits BinOp.or IntKind.u8 (c.toNat : Int) 32 ≤ 122)) = false := by rw [hx]; simp <;> omega
  clear hx h1 h2 hv
  go_enter Tryz.func40, Tryz.ntmps40
  go_wp2
  go_ret
  exact ⟨rfl, rfl⟩

set_option maxHeartbeats 1000000 in
set_option maxRecDepth 100000 in
theorem class_96 (c : UInt8) (w : World) (h1 : 96 ≤ c.toNat) (h2 : c.toNat ≤ 96) : Calls Tryz.prog 40 #[.int .u8 (c.toNat : Int)] w (RetI w (classN c)) := by
  have hv : classN c = 0 := by
    unfold classN letB
    simp only [marks_nat, decide_eq_true_eq]
    repeat' split
    all_goals omega
  rw [hv]
  have HI := index_is (c := c) (n := -1) (idx_no (by rw [marks_nat]; omega))
  have e32 : ((c.toNat : Int) == 32) = false := by simp <;> omega
  have e9 : ((c.toNat : Int) == 9) = false := by simp <;> omega
  have e10 : ((c.toNat : Int) == 10) = false := by simp <;> omega
  have e95 : ((c.toNat : Int) == 95) = false := by simp <;> omega
  have e45 : ((c.toNat : Int) == 45) = false := by simp <;> omega
  have e34 : ((c.toNat : Int) == 34) = false := by simp <;> omega
  have e35 : ((c.toNat : Int) == 35) = false := by simp <;> omega
  have p48 : (decide ((48 : Int) ≤ (c.toNat : Int))) = true := by simp <;> omega
  have p57 : (decide ((c.toNat : Int) ≤ 57)) = false := by simp <;> omega
  have hx : bits BinOp.or IntKind.u8 (c.toNat : Int) 32 = ((c.toNat : Nat) : Int) := by rw [bits_is (by omega), if_pos (by omega)]
  have p97 : (decide ((97 : Int) ≤ bits BinOp.or IntKind.u8 (c.toNat : Int) 32)) = false := by rw [hx]; simp <;> omega
  have p122 : (decide (bits BinOp.or IntKind.u8 (c.toNat : Int) 32 ≤ 122)) = true := by rw [hx]; simp <;> omega
  clear hx h1 h2 hv
  go_enter Tryz.func40, Tryz.ntmps40
  go_wp2_with fail
  refine (HI.out _).mono ?_
  rintro e w' ⟨rfl, rfl⟩
  go_wp2
  go_ret
  exact ⟨rfl, rfl⟩

set_option maxHeartbeats 1000000 in
set_option maxRecDepth 100000 in
theorem class_97 (c : UInt8) (w : World) (h1 : 97 ≤ c.toNat) (h2 : c.toNat ≤ 122) : Calls Tryz.prog 40 #[.int .u8 (c.toNat : Int)] w (RetI w (classN c)) := by
  have hv : classN c = 3 := by
    unfold classN letB
    simp only [marks_nat, decide_eq_true_eq]
    repeat' split
    all_goals omega
  rw [hv]
  have e32 : ((c.toNat : Int) == 32) = false := by simp <;> omega
  have e9 : ((c.toNat : Int) == 9) = false := by simp <;> omega
  have e10 : ((c.toNat : Int) == 10) = false := by simp <;> omega
  have e95 : ((c.toNat : Int) == 95) = false := by simp <;> omega
  have e45 : ((c.toNat : Int) == 45) = false := by simp <;> omega
  have e34 : ((c.toNat : Int) == 34) = false := by simp <;> omega
  have e35 : ((c.toNat : Int) == 35) = false := by simp <;> omega
  have p48 : (decide ((48 : Int) ≤ (c.toNat : Int))) = true := by simp <;> omega
  have p57 : (decide ((c.toNat : Int) ≤ 57)) = false := by simp <;> omega
  have hx : bits BinOp.or IntKind.u8 (c.toNat : Int) 32 = ((c.toNat : Nat) : Int) := by rw [bits_is (by omega), if_pos (by omega)]
  have p97 : (decide ((97 : Int) ≤ bits BinOp.or IntKind.u8 (c.toNat : Int) 32)) = true := by rw [hx]; simp <;> omega
  have p122 : (decide (bits BinOp.or IntKind.u8 (c.toNat : Int) 32 ≤ 122)) = true := by rw [hx]; simp <;> omega
  clear hx h1 h2 hv
  go_enter Tryz.func40, Tryz.ntmps40
  go_wp2
  go_ret
  exact ⟨rfl, rfl⟩

set_option maxHeartbeats 1000000 in
set_option maxRecDepth 100000 in
theorem class_123 (c : UInt8) (w : World) (h1 : 123 ≤ c.toNat) (h2 : c.toNat ≤ 123) : Calls Tryz.prog 40 #[.int .u8 (c.toNat : Int)] w (RetI w (classN c)) := by
  have hv : classN c = 5 := by
    unfold classN letB
    simp only [marks_nat, decide_eq_true_eq]
    repeat' split
    all_goals omega
  rw [hv]
  have HI := index_is (c := c) (n := 2) (by
    have : c = 123 := UInt8.toNat_inj.1 (by show c.toNat = 123; omega)
    rw [this]; rfl)
  have e32 : ((c.toNat : Int) == 32) = false := by simp <;> omega
  have e9 : ((c.toNat : Int) == 9) = false := by simp <;> omega
  have e10 : ((c.toNat : Int) == 10) = false := by simp <;> omega
  have e95 : ((c.toNat : Int) == 95) = false := by simp <;> omega
  have e45 : ((c.toNat : Int) == 45) = false := by simp <;> omega
  have e34 : ((c.toNat : Int) == 34) = false := by simp <;> omega
  have e35 : ((c.toNat : Int) == 35) = false := by simp <;> omega
  have p48 : (decide ((48 : Int) ≤ (c.toNat : Int))) = true := by simp <;> omega
  have p57 : (decide ((c.toNat : Int) ≤ 57)) = false := by simp <;> omega
  have hx : bits BinOp.or IntKind.u8 (c.toNat : Int) 32 = ((c.toNat : Nat) : Int) := by rw [bits_is (by omega), if_pos (by omega)]
  have p97 : (decide ((97 : Int) ≤ bits BinOp.or IntKind.u8 (c.toNat : Int) 32)) = true := by rw [hx]; simp <;> omega
  have p122 : (decide (bits BinOp.or IntKind.u8 (c.toNat : Int) 32 ≤ 122)) = false := by rw [hx]; simp <;> omega
  clear hx h1 h2 hv
  go_enter Tryz.func40, Tryz.ntmps40
  go_wp2_with fail
  refine (HI.out _).mono ?_
  rintro e w' ⟨rfl, rfl⟩
  go_wp2
  go_ret
  exact ⟨rfl, rfl⟩

set_option maxHeartbeats 1000000 in
set_option maxRecDepth 100000 in
theorem class_124 (c : UInt8) (w : World) (h1 : 124 ≤ c.toNat) (h2 : c.toNat ≤ 124) : Calls Tryz.prog 40 #[.int .u8 (c.toNat : Int)] w (RetI w (classN c)) := by
  have hv : classN c = 0 := by
    unfold classN letB
    simp only [marks_nat, decide_eq_true_eq]
    repeat' split
    all_goals omega
  rw [hv]
  have HI := index_is (c := c) (n := -1) (idx_no (by rw [marks_nat]; omega))
  have e32 : ((c.toNat : Int) == 32) = false := by simp <;> omega
  have e9 : ((c.toNat : Int) == 9) = false := by simp <;> omega
  have e10 : ((c.toNat : Int) == 10) = false := by simp <;> omega
  have e95 : ((c.toNat : Int) == 95) = false := by simp <;> omega
  have e45 : ((c.toNat : Int) == 45) = false := by simp <;> omega
  have e34 : ((c.toNat : Int) == 34) = false := by simp <;> omega
  have e35 : ((c.toNat : Int) == 35) = false := by simp <;> omega
  have p48 : (decide ((48 : Int) ≤ (c.toNat : Int))) = true := by simp <;> omega
  have p57 : (decide ((c.toNat : Int) ≤ 57)) = false := by simp <;> omega
  have hx : bits BinOp.or IntKind.u8 (c.toNat : Int) 32 = ((c.toNat : Nat) : Int) := by rw [bits_is (by omega), if_pos (by omega)]
  have p97 : (decide ((97 : Int) ≤ bits BinOp.or IntKind.u8 (c.toNat : Int) 32)) = true := by rw [hx]; simp <;> omega
  have p122 : (decide (bits BinOp.or IntKind.u8 (c.toNat : Int) 32 ≤ 122)) = false := by rw [hx]; simp <;> omega
  clear hx h1 h2 hv
  go_enter Tryz.func40, Tryz.ntmps40
  go_wp2_with fail
  refine (HI.out _).mono ?_
  rintro e w' ⟨rfl, rfl⟩
  go_wp2
  go_ret
  exact ⟨rfl, rfl⟩

set_option maxHeartbeats 1000000 in
set_option maxRecDepth 100000 in
theorem class_125 (c : UInt8) (w : World) (h1 : 125 ≤ c.toNat) (h2 : c.toNat ≤ 125) : Calls Tryz.prog 40 #[.int .u8 (c.toNat : Int)] w (RetI w (classN c)) := by
  have hv : classN c = 5 := by
    unfold classN letB
    simp only [marks_nat, decide_eq_true_eq]
    repeat' split
    all_goals omega
  rw [hv]
  have HI := index_is (c := c) (n := 3) (by
    have : c = 125 := UInt8.toNat_inj.1 (by show c.toNat = 125; omega)
    rw [this]; rfl)
  have e32 : ((c.toNat : Int) == 32) = false := by simp <;> omega
  have e9 : ((c.toNat : Int) == 9) = false := by simp <;> omega
  have e10 : ((c.toNat : Int) == 10) = false := by simp <;> omega
  have e95 : ((c.toNat : Int) == 95) = false := by simp <;> omega
  have e45 : ((c.toNat : Int) == 45) = false := by simp <;> omega
  have e34 : ((c.toNat : Int) == 34) = false := by simp <;> omega
  have e35 : ((c.toNat : Int) == 35) = false := by simp <;> omega
  have p48 : (decide ((48 : Int) ≤ (c.toNat : Int))) = true := by simp <;> omega
  have p57 : (decide ((c.toNat : Int) ≤ 57)) = false := by simp <;> omega
  have hx : bits BinOp.or IntKind.u8 (c.toNat : Int) 32 = ((c.toNat : Nat) : Int) := by rw [bits_is (by omega), if_pos (by omega)]
  have p97 : (decide ((97 : Int) ≤ bits BinOp.or IntKind.u8 (c.toNat : Int) 32)) = true := by rw [hx]; simp <;> omega
  have p122 : (decide (bits BinOp.or IntKind.u8 (c.toNat : Int) 32 ≤ 122)) = false := by rw [hx]; simp <;> omega
  clear hx h1 h2 hv
  go_enter Tryz.func40, Tryz.ntmps40
  go_wp2_with fail
  refine (HI.out _).mono ?_
  rintro e w' ⟨rfl, rfl⟩
  go_wp2
  go_ret
  exact ⟨rfl, rfl⟩

set_option maxHeartbeats 1000000 in
set_option maxRecDepth 100000 in
theorem class_126 (c : UInt8) (w : World) (h1 : 126 ≤ c.toNat) (h2 : c.toNat ≤ 127) : Calls Tryz.prog 40 #[.int .u8 (c.toNat : Int)] w (RetI w (classN c)) := by
  have hv : classN c = 0 := by
    unfold classN letB
    simp only [marks_nat, decide_eq_true_eq]
    repeat' split
    all_goals omega
  rw [hv]
  have HI := index_is (c := c) (n := -1) (idx_no (by rw [marks_nat]; omega))
  have e32 : ((c.toNat : Int) == 32) = false := by simp <;> omega
  have e9 : ((c.toNat : Int) == 9) = false := by simp <;> omega
  have e10 : ((c.toNat : Int) == 10) = false := by simp <;> omega
  have e95 : ((c.toNat : Int) == 95) = false := by simp <;> omega
  have e45 : ((c.toNat : Int) == 45) = false := by simp <;> omega
  have e34 : ((c.toNat : Int) == 34) = false := by simp <;> omega
  have e35 : ((c.toNat : Int) == 35) = false := by simp <;> omega
  have p48 : (decide ((48 : Int) ≤ (c.toNat : Int))) = true := by simp <;> omega
  have p57 : (decide ((c.toNat : Int) ≤ 57)) = false := by simp <;> omega
  have hx : bits BinOp.or IntKind.u8 (c.toNat : Int) 32 = ((c.toNat : Nat) : Int) := by rw [bits_is (by omega), if_pos (by omega)]
  have p97 : (decide ((97 : Int) ≤ bits BinOp.or IntKind.u8 (c.toNat : Int) 32)) = true := by rw [hx]; simp <;> omega
  have p122 : (decide (bits BinOp.or IntKind.u8 (c.toNat : Int) 32 ≤ 122)) = false := by rw [hx]; simp <;> omega
  clear hx h1 h2 hv
  go_enter Tryz.func40, Tryz.ntmps40
  go_wp2_with fail
  refine (HI.out _).mono ?_
  rintro e w' ⟨rfl, rfl⟩
  go_wp2
  go_ret
  exact ⟨rfl, rfl⟩

set_option maxHeartbeats 1000000 in
set_option maxRecDepth 100000 in
theorem class_128 (c : UInt8) (w : World) (h1 : 128 ≤ c.toNat) (h2 : c.toNat ≤ 159) : Calls Tryz.prog 40 #[.int .u8 (c.toNat : Int)] w (RetI w (classN c)) := by
  have hv : classN c = 0 := by
    unfold classN letB
    simp only [marks_nat, decide_eq_true_eq]
    repeat' split
    all_goals omega
  rw [hv]
  have HI := index_is (c := c) (n := -1) (idx_no (by rw [marks_nat]; omega))
  have e32 : ((c.toNat : Int) == 32) = false := by simp <;> omega
  have e9 : ((c.toNat : Int) == 9) = false := by simp <;> omega
  have e10 : ((c.toNat : Int) == 10) = false := by simp <;> omega
  have e95 : ((c.toNat : Int) == 95) = false := by simp <;> omega
  have e45 : ((c.toNat : Int) == 45) = false := by simp <;> omega
  have e34 : ((c.toNat : Int) == 34) = false := by simp <;> omega
  have e35 : ((c.toNat : Int) == 35) = false := by simp <;> omega
  have p48 : (decide ((48 : Int) ≤ (c.toNat : Int))) = true := by simp <;> omega
  have p57 : (decide ((c.toNat : Int) ≤ 57)) = false := by simp <;> omega
  have hx : bits BinOp.or IntKind.u8 (c.toNat : Int) 32 = ((c.toNat + 32 : Nat) : Int) := by rw [bits_is (by omega), if_neg (by omega)]
  have p97 : (decide ((97 : Int) ≤ bits BinOp.or IntKind.u8 (c.toNat : Int) 32)) = true := by rw [hx]; simp <;> omega
  have p122 : (decide (bits BinOp.or IntKind.u8 (c.toNat : Int) 32 ≤ 122)) = false := by rw [hx]; simp <;> omega
  clear hx h1 h2 hv
  go_enter Tryz.func40, Tryz.ntmps40
  go_wp2_with fail
  refine (HI.out _).mono ?_
  rintro e w' ⟨rfl, rfl⟩
  go_wp2
  go_ret
  exact ⟨rfl, rfl⟩

set_option maxHeartbeats 1000000 in
set_option maxRecDepth 100000 in
theorem class_160 (c : UInt8) (w : World) (h1 : 160 ≤ c.toNat) (h2 : c.toNat ≤ 191) : Calls Tryz.prog 40 #[.int .u8 (c.toNat : Int)] w (RetI w (classN c)) := by
  have hv : classN c = 0 := by
    unfold classN letB
    simp only [marks_nat, decide_eq_true_eq]
    repeat' split
    all_goals omega
  rw [hv]
  have HI := index_is (c := c) (n := -1) (idx_no (by rw [marks_nat]; omega))
  have e32 : ((c.toNat : Int) == 32) = false := by simp <;> omega
  have e9 : ((c.toNat : Int) == 9) = false := by simp <;> omega
  have e10 : ((c.toNat : Int) == 10) = false := by simp <;> omega
  have e95 : ((c.toNat : Int) == 95) = false := by simp <;> omega
  have e45 : ((c.toNat : Int) == 45) = false := by simp <;> omega
  have e34 : ((c.toNat : Int) == 34) = false := by simp <;> omega
  have e35 : ((c.toNat : Int) == 35) = false := by simp <;> omega
  have p48 : (decide ((48 : Int) ≤ (c.toNat : Int))) = true := by simp <;> omega
  have p57 : (decide ((c.toNat : Int) ≤ 57)) = false := by simp <;> omega
  have hx : bits BinOp.or IntKind.u8 (c.toNat : Int) 32 = ((c.toNat : Nat) : Int) := by rw [bits_is (by omega), if_pos (by omega)]
  have p97 : (decide ((97 : Int) ≤ bits BinOp.or IntKind.u8 (c.toNat : Int) 32)) = true := by rw [hx]; simp <;> omega
  have p122 : (decide (bits BinOp.or IntKind.u8 (c.toNat : Int) 32 ≤ 122)) = false := by rw [hx]; simp <;> omega
  clear hx h1 h2 hv
  go_enter Tryz.func40, Tryz.ntmps40
  go_wp2_with fail
  refine (HI.out _).mono ?_
  rintro e w' ⟨rfl, rfl⟩
  go_wp2
  go_ret
  exact ⟨rfl, rfl⟩

set_option maxHeartbeats 1000000 in
set_option maxRecDepth 100000 in
theorem class_192 (c : UInt8) (w : World) (h1 : 192 ≤ c.toNat) (h2 : c.toNat ≤ 223) : Calls Tryz.prog 40 #[.int .u8 (c.toNat : Int)] w (RetI w (classN c)) := by
  have hv : classN c = 0 := by
    unfold classN letB
    simp only [marks_nat, decide_eq_true_eq]
    repeat' split
    all_goals omega
  rw [hv]
  have HI := index_is (c := c) (n := -1) (idx_no (by rw [marks_nat]; omega))
  have e32 : ((c.toNat : Int) == 32) = false := by simp <;> omega
  have e9 : ((c.toNat : Int) == 9) = false := by simp <;> omega
  have e10 : ((c.toNat : Int) == 10) = false := by simp <;> omega
  have e95 : ((c.toNat : Int) == 95) = false := by simp <;> omega
  have e45 : ((c.toNat : Int) == 45) = false := by simp <;> omega
  have e34 : ((c.toNat : Int) == 34) = false := by simp <;> omega
  have e35 : ((c.toNat : Int) == 35) = false := by simp <;> omega
  have p48 : (decide ((48 : Int) ≤ (c.toNat : Int))) = true := by simp <;> omega
  have p57 : (decide ((c.toNat : Int) ≤ 57)) = false := by simp <;> omega
  have hx : bits BinOp.or IntKind.u8 (c.toNat : Int) 32 = ((c.toNat + 32 : Nat) : Int) := by rw [bits_is (by omega), if_neg (by omega)]
  have p97 : (decide ((97 : Int) ≤ bits BinOp.or IntKind.u8 (c.toNat : Int) 32)) = true := by rw [hx]; simp <;> omega
  have p122 : (decide (bits BinOp.or IntKind.u8 (c.toNat : Int) 32 ≤ 122)) = false := by rw [hx]; simp <;> omega
  clear hx h1 h2 hv
  go_enter Tryz.func40, Tryz.ntmps40
  go_wp2_with fail
  refine (HI.out _).mono ?_
  rintro e w' ⟨rfl, rfl⟩
  go_wp2
  go_ret
  exact ⟨rfl, rfl⟩

set_option maxHeartbeats 1000000 in
set_option maxRecDepth 100000 in
theorem class_224 (c : UInt8) (w : World) (h1 : 224 ≤ c.toNat) (h2 : c.toNat ≤ 255) : Calls Tryz.prog 40 #[.int .u8 (c.toNat : Int)] w (RetI w (classN c)) := by
  have hv : classN c = 0 := by
    unfold classN letB
    simp only [marks_nat, decide_eq_true_eq]
    repeat' split
    all_goals omega
  rw [hv]
  have HI := index_is (c := c) (n := -1) (idx_no (by rw [marks_nat]; omega))
  have e32 : ((c.toNat : Int) == 32) = false := by simp <;> omega
  have e9 : ((c.toNat : Int) == 9) = false := by simp <;> omega
  have e10 : ((c.toNat : Int) == 10) = false := by simp <;> omega
  have e95 : ((c.toNat : Int) == 95) = false := by simp <;> omega
  have e45 : ((c.toNat : Int) == 45) = false := by simp <;> omega
  have e34 : ((c.toNat : Int) == 34) = false := by simp <;> omega
  have e35 : ((c.toNat : Int) == 35) = false := by simp <;> omega
  have p48 : (decide ((48 : Int) ≤ (c.toNat : Int))) = true := by simp <;> omega
  have p57 : (decide ((c.toNat : Int) ≤ 57)) = false := by simp <;> omega
  have hx : bits BinOp.or IntKind.u8 (c.toNat : Int) 32 = ((c.toNat : Nat) : Int) := by rw [bits_is (by omega), if_pos (by omega)]
  have p97 : (decide ((97 : Int) ≤ bits BinOp.or IntKind.u8 (c.toNat : Int) 32)) = true := by rw [hx]; simp <;> omega
  have p122 : (decide (bits BinOp.or IntKind.u8 (c.toNat : Int) 32 ≤ 122)) = false := by rw [hx]; simp <;> omega
  clear hx h1 h2 hv
  go_enter Tryz.func40, Tryz.ntmps40
  go_wp2_with fail
  refine (HI.out _).mono ?_
  rintro e w' ⟨rfl, rfl⟩
  go_wp2
  go_ret
  exact ⟨rfl, rfl⟩

theorem class_any (c : UInt8) (w : World) : Calls Tryz.prog 40 #[.int .u8 (c.toNat : Int)] w (RetI w (classN c)) := by
  have hc := c.toNat_lt
  rcases Nat.lt_or_ge 8 c.toNat with h8 | h8
  case inr => exact class_0 c w (by omega) h8
  rcases Nat.lt_or_ge 9 c.toNat with h9 | h9
  case inr => exact class_9 c w (by omega) h9
  rcases Nat.lt_or_ge 10 c.toNat with h10 | h10
  case inr => exact class_10 c w (by omega) h10
  rcases Nat.lt_or_ge 31 c.toNat with h31 | h31
  case inr => exact class_11 c w (by omega) h31
  rcases Nat.lt_or_ge 32 c.toNat with h32 | h32
  case inr => exact class_32 c w (by omega) h32
  rcases Nat.lt_or_ge 33 c.toNat with h33 | h33
  case inr => exact class_33 c w (by omega) h33
  rcases Nat.lt_or_ge 34 c.toNat with h34 | h34
  case inr => exact class_34 c w (by omega) h34
  rcases Nat.lt_or_ge 35 c.toNat with h35 | h35
  case inr => exact class_35 c w (by omega) h35
  rcases Nat.lt_or_ge 39 c.toNat with h39 | h39
  case inr => exact class_36 c w (by omega) h39
  rcases Nat.lt_or_ge 40 c.toNat with h40 | h40
  case inr => exact class_40 c w (by omega) h40
  rcases Nat.lt_or_ge 41 c.toNat with h41 | h41
  case inr => exact class_41 c w (by omega) h41
  rcases Nat.lt_or_ge 42 c.toNat with h42 | h42
  case inr => exact class_42 c w (by omega) h42
  rcases Nat.lt_or_ge 43 c.toNat with h43 | h43
  case inr => exact class_43 c w (by omega) h43
  rcases Nat.lt_or_ge 44 c.toNat with h44 | h44
  case inr => exact class_44 c w (by omega) h44
  rcases Nat.lt_or_ge 45 c.toNat with h45 | h45
  case inr => exact class_45 c w (by omega) h45
  rcases Nat.lt_or_ge 47 c.toNat with h47 | h47
  case inr => exact class_46 c w (by omega) h47
  rcases Nat.lt_or_ge 57 c.toNat with h57 | h57
  case inr => exact class_48 c w (by omega) h57
  rcases Nat.lt_or_ge 58 c.toNat with h58 | h58
  case inr => exact class_58 c w (by omega) h58
  rcases Nat.lt_or_ge 59 c.toNat with h59 | h59
  case inr => exact class_59 c w (by omega) h59
  rcases Nat.lt_or_ge 63 c.toNat with h63 | h63
  case inr => exact class_60 c w (by omega) h63
  rcases Nat.lt_or_ge 64 c.toNat with h64 | h64
  case inr => exact class_64 c w (by omega) h64
  rcases Nat.lt_or_ge 90 c.toNat with h90 | h90
  case inr => exact class_65 c w (by omega) h90
  rcases Nat.lt_or_ge 94 c.toNat with h94 | h94
  case inr => exact class_91 c w (by omega) h94
  rcases Nat.lt_or_ge 95 c.toNat with h95 | h95
  case inr => exact class_95 c w (by omega) h95
  rcases Nat.lt_or_ge 96 c.toNat with h96 | h96
  case inr => exact class_96 c w (by omega) h96
  rcases Nat.lt_or_ge 122 c.toNat with h122 | h122
  case inr => exact class_97 c w (by omega) h122
  rcases Nat.lt_or_ge 123 c.toNat with h123 | h123
  case inr => exact class_123 c w (by omega) h123
  rcases Nat.lt_or_ge 124 c.toNat with h124 | h124
  case inr => exact class_124 c w (by omega) h124
  rcases Nat.lt_or_ge 125 c.toNat with h125 | h125
  case inr => exact class_125 c w (by omega) h125
  rcases Nat.lt_or_ge 127 c.toNat with h127 | h127
  case inr => exact class_126 c w (by omega) h127
  rcases Nat.lt_or_ge 159 c.toNat with h159 | h159
  case inr => exact class_128 c w (by omega) h159
  rcases Nat.lt_or_ge 191 c.toNat with h191 | h191
  case inr => exact class_160 c w (by omega) h191
  rcases Nat.lt_or_ge 223 c.toNat with h223 | h223
  case inr => exact class_192 c w (by omega) h223
  exact class_224 c w (by omega) (by omega)

set_option maxRecDepth 100000 in
theorem mark_40 (c : UInt8) (w : World) (h : c.toNat = 40) : Calls Tryz.prog 35 #[.int .u8 (c.toNat : Int)] w (RetB w (mkB c)) := by
  have hv : mkB c = true := by unfold mkB; simp only [marks_nat, Bool.or_eq_true, decide_eq_true_eq]; omega
  rw [hv, h]
  go_enter Tryz.func35, Tryz.ntmps35
  go_wp2
  go_ret
  exact ⟨rfl, rfl⟩

set_option maxRecDepth 100000 in
theorem mark_41 (c : UInt8) (w : World) (h : c.toNat = 41) : Calls Tryz.prog 35 #[.int .u8 (c.toNat : Int)] w (RetB w (mkB c)) := by
  have hv : mkB c = true := by unfold mkB; simp only [marks_nat, Bool.or_eq_true, decide_eq_true_eq]; omega
  rw [hv, h]
  go_enter Tryz.func35, Tryz.ntmps35
  go_wp2
  go_ret
  exact ⟨rfl, rfl⟩

set_option maxRecDepth 100000 in
theorem mark_123 (c : UInt8) (w : World) (h : c.toNat = 123) : Calls Tryz.prog 35 #[.int .u8 (c.toNat : Int)] w (RetB w (mkB c)) := by
  have hv : mkB c = true := by unfold mkB; simp only [marks_nat, Bool.or_eq_true, decide_eq_true_eq]; omega
  rw [hv, h]
  go_enter Tryz.func35, Tryz.ntmps35
  go_wp2
  go_ret
  exact ⟨rfl, rfl⟩

set_option maxRecDepth 100000 in
theorem mark_125 (c : UInt8) (w : World) (h : c.toNat = 125) : Calls Tryz.prog 35 #[.int .u8 (c.toNat : Int)] w (RetB w (mkB c)) := by
  have hv : mkB c = true := by unfold mkB; simp only [marks_nat, Bool.or_eq_true, decide_eq_true_eq]; omega
  rw [hv, h]
  go_enter Tryz.func35, Tryz.ntmps35
  go_wp2
  go_ret
  exact ⟨rfl, rfl⟩

set_option maxRecDepth 100000 in
theorem mark_44 (c : UInt8) (w : World) (h : c.toNat = 44) : Calls Tryz.prog 35 #[.int .u8 (c.toNat : Int)] w (RetB w (mkB c)) := by
  have hv : mkB c = true := by unfold mkB; simp only [marks_nat, Bool.or_eq_true, decide_eq_true_eq]; omega
  rw [hv, h]
  go_enter Tryz.func35, Tryz.ntmps35
  go_wp2
  go_ret
  exact ⟨rfl, rfl⟩

set_option maxRecDepth 100000 in
theorem mark_59 (c : UInt8) (w : World) (h : c.toNat = 59) : Calls Tryz.prog 35 #[.int .u8 (c.toNat : Int)] w (RetB w (mkB c)) := by
  have hv : mkB c = true := by unfold mkB; simp only [marks_nat, Bool.or_eq_true, decide_eq_true_eq]; omega
  rw [hv, h]
  go_enter Tryz.func35, Tryz.ntmps35
  go_wp2
  go_ret
  exact ⟨rfl, rfl⟩

set_option maxRecDepth 100000 in
theorem mark_64 (c : UInt8) (w : World) (h : c.toNat = 64) : Calls Tryz.prog 35 #[.int .u8 (c.toNat : Int)] w (RetB w (mkB c)) := by
  have hv : mkB c = true := by unfold mkB; simp only [marks_nat, Bool.or_eq_true, decide_eq_true_eq]; omega
  rw [hv, h]
  go_enter Tryz.func35, Tryz.ntmps35
  go_wp2
  go_ret
  exact ⟨rfl, rfl⟩

set_option maxRecDepth 100000 in
theorem mark_43 (c : UInt8) (w : World) (h : c.toNat = 43) : Calls Tryz.prog 35 #[.int .u8 (c.toNat : Int)] w (RetB w (mkB c)) := by
  have hv : mkB c = true := by unfold mkB; simp only [marks_nat, Bool.or_eq_true, decide_eq_true_eq]; omega
  rw [hv, h]
  go_enter Tryz.func35, Tryz.ntmps35
  go_wp2
  go_ret
  exact ⟨rfl, rfl⟩

set_option maxRecDepth 100000 in
theorem mark_45 (c : UInt8) (w : World) (h : c.toNat = 45) : Calls Tryz.prog 35 #[.int .u8 (c.toNat : Int)] w (RetB w (mkB c)) := by
  have hv : mkB c = true := by unfold mkB; simp only [marks_nat, Bool.or_eq_true, decide_eq_true_eq]; omega
  rw [hv, h]
  go_enter Tryz.func35, Tryz.ntmps35
  go_wp2
  go_ret
  exact ⟨rfl, rfl⟩

set_option maxRecDepth 100000 in
theorem mark_42 (c : UInt8) (w : World) (h : c.toNat = 42) : Calls Tryz.prog 35 #[.int .u8 (c.toNat : Int)] w (RetB w (mkB c)) := by
  have hv : mkB c = true := by unfold mkB; simp only [marks_nat, Bool.or_eq_true, decide_eq_true_eq]; omega
  rw [hv, h]
  go_enter Tryz.func35, Tryz.ntmps35
  go_wp2
  go_ret
  exact ⟨rfl, rfl⟩

set_option maxHeartbeats 1000000 in
set_option maxRecDepth 100000 in
theorem mark_no (c : UInt8) (w : World) (h : ¬ (c ∈ marksL ∨ c.toNat = 45)) : Calls Tryz.prog 35 #[.int .u8 (c.toNat : Int)] w (RetB w (mkB c)) := by
  have hv : mkB c = false := by unfold mkB; simp only [Bool.or_eq_false_iff, decide_eq_false_iff_not]; exact ⟨fun a => h (.inl a), fun a => h (.inr a)⟩
  rw [marks_nat] at h
  rw [hv]
  have e40 : ((c.toNat : Int) == 40) = false := by simp <;> omega
  have e41 : ((c.toNat : Int) == 41) = false := by simp <;> omega
  have e123 : ((c.toNat : Int) == 123) = false := by simp <;> omega
  have e125 : ((c.toNat : Int) == 125) = false := by simp <;> omega
  have e44 : ((c.toNat : Int) == 44) = false := by simp <;> omega
  have e59 : ((c.toNat : Int) == 59) = false := by simp <;> omega
  have e64 : ((c.toNat : Int) == 64) = false := by simp <;> omega
  have e43 : ((c.toNat : Int) == 43) = false := by simp <;> omega
  have e45 : ((c.toNat : Int) == 45) = false := by simp <;> omega
  have e42 : ((c.toNat : Int) == 42) = false := by simp <;> omega
  clear h hv
  go_enter Tryz.func35, Tryz.ntmps35
  go_wp2
  go_ret
  exact ⟨rfl, rfl⟩

theorem mark_any (c : UInt8) (w : World) : Calls Tryz.prog 35 #[.int .u8 (c.toNat : Int)] w (RetB w (mkB c)) := by
  by_cases h : c ∈ marksL ∨ c.toNat = 45
  · have h' := h
    rw [marks_nat] at h'
    rcases h' with (h | h | h | h | h | h | h | h | h) | h
    · exact mark_40 c w h
    · exact mark_41 c w h
    · exact mark_123 c w h
    · exact mark_125 c w h
    · exact mark_44 c w h
    · exact mark_59 c w h
    · exact mark_64 c w h
    · exact mark_43 c w h
    · exact mark_42 c w h
    · exact mark_45 c w h
  · exact mark_no c w h

end Go.Proofs.YtnmiiimbjojcmaaGreatDoor

namespace Go.Proofs.YtnmiiimbjojcmaaGreatDoor
open Go.RowKit

set_option maxHeartbeats 1000000 in
set_option maxRecDepth 100000 in
theorem leap_any (y : Nat) (w : World) (hy : y ≤ 10000) : Calls Tryz.prog 79 #[.int .i64 (y : Int)] w (RetB w (leapB y)) := by
  have hb : leapB y = (((y : Int) % 4 == 0) && (((y : Int) % 100 != 0) || ((y : Int) % 400 == 0))) := by
    unfold leapB
    rw [Bool.eq_iff_iff]
    simp
    omega
  rw [hb]
  obtain ⟨b1, h1⟩ : ∃ b, ((y : Int) % 4 == 0) = b := ⟨_, rfl⟩
  obtain ⟨b2, h2⟩ : ∃ b, ((y : Int) % 100 != 0) = b := ⟨_, rfl⟩
  obtain ⟨b3, h3⟩ : ∃ b, ((y : Int) % 400 == 0) = b := ⟨_, rfl⟩
  rw [h1, h2, h3]
  clear hb
  cases b1 <;> cases b2 <;> cases b3
  all_goals
    go_enter Tryz.func79, Tryz.ntmps79
    go_wp2
    go_ret
    exact ⟨rfl, rfl⟩

set_option maxHeartbeats 1000000 in
set_option maxRecDepth 100000 in
theorem rleap_any (y : Nat) (w : World) (hy : y ≤ 10000) : Calls Tryz.prog 70 #[.int .i64 (y : Int)] w (RetB w (leapB y)) := by
  have hb : leapB y = (((y : Int) % 400 == 0) || (!((y : Int) % 100 == 0) && ((y : Int) % 4 == 0))) := by
    unfold leapB
    rw [Bool.eq_iff_iff]
    simp
    omega
  rw [hb]
  obtain ⟨b1, h1⟩ : ∃ b, ((y : Int) % 4 == 0) = b := ⟨_, rfl⟩
  obtain ⟨b2, h2⟩ : ∃ b, ((y : Int) % 100 == 0) = b := ⟨_, rfl⟩
  obtain ⟨b3, h3⟩ : ∃ b, ((y : Int) % 400 == 0) = b := ⟨_, rfl⟩
  rw [h1, h2, h3]
  clear hb
  cases b1 <;> cases b2 <;> cases b3
  all_goals
    go_enter Tryz.func70, Tryz.ntmps70
    go_wp2
    go_ret
    exact ⟨rfl, rfl⟩

theorem longN_2 (y : Nat) : longN y 2 = if leapB y = true then 29 else 28 := rfl
set_option maxHeartbeats 1000000 in
set_option maxRecDepth 100000 in
theorem long_any' (y m : Nat) (w : World) (hy : y ≤ 10000) (h1 : 1 ≤ m) (h2 : m ≤ 12) : Calls Tryz.prog 69 #[.int .i64 (y : Int), .int .i64 (m : Int)] w (RetI w (longN y m : Int)) := by
  have hm : m = 1 ∨ m = 2 ∨ m = 3 ∨ m = 4 ∨ m = 5 ∨ m = 6 ∨ m = 7 ∨ m = 8 ∨ m = 9 ∨ m = 10 ∨ m = 11 ∨ m = 12 := by omega
  rcases hm with rfl | rfl | rfl | rfl | rfl | rfl | rfl | rfl | rfl | rfl | rfl | rfl
  case inr.inl =>
    have HL := Lib.hid (fun W => rleap_any y W hy)
    rw [longN_2]
    obtain ⟨b, hb⟩ : ∃ b, b = leapB y := ⟨_, rfl⟩
    rw [← hb] at HL ⊢
    clear hb
    cases b
    · go_enter Tryz.func69, Tryz.ntmps69
      go_wp2_with fail
      refine (HL.out _).mono ?_
      rintro e w' ⟨rfl, rfl⟩
      go_wp2
      go_ret
      exact ⟨rfl, rfl⟩
    · go_enter Tryz.func69, Tryz.ntmps69
      go_wp2_with fail
      refine (HL.out _).mono ?_
      rintro e w' ⟨rfl, rfl⟩
      go_wp2
      go_ret
      exact ⟨rfl, rfl⟩
  all_goals
    go_enter Tryz.func69, Tryz.ntmps69
    go_wp2
    go_ret
    exact ⟨rfl, rfl⟩

set_option maxHeartbeats 1000000 in
set_option maxRecDepth 100000 in
theorem leaps_any (y : Nat) (w : World) (hy : y ≤ 10000) : Calls Tryz.prog 78 #[.int .i64 (y : Int)] w (RetI w (leapsN y : Int)) := by
  obtain ⟨a, ha⟩ : ∃ a, a = y / 4 := ⟨_, rfl⟩
  obtain ⟨b, hb⟩ : ∃ b, b = y / 100 := ⟨_, rfl⟩
  obtain ⟨c, hc⟩ : ∃ c, c = y / 400 := ⟨_, rfl⟩
  have ha' : (y : Int) / 4 = (a : Int) := by omega
  have hb' : (y : Int) / 100 = (b : Int) := by omega
  have hc' : (y : Int) / 400 = (c : Int) := by omega
  have hl : (leapsN y : Int) = (a : Int) - (b : Int) + (c : Int) := by unfold leapsN; omega
  have l1 : b ≤ a := by omega
  have l2 : a ≤ 10000 := by omega
  have l3 : c ≤ 10000 := by omega
  rw [hl]
  clear hl ha hb hc
  go_enter Tryz.func78, Tryz.ntmps78
  go_wp2
  go_ret
  exact ⟨rfl, rfl⟩

set_option maxHeartbeats 1000000 in
set_option maxRecDepth 100000 in
theorem first_any' (y : Nat) (w : World) (h1 : 1900 ≤ y) (hy : y ≤ 10000) : Calls Tryz.prog 54 #[.int .i64 (y : Int)] w (RetI w (yd y : Int)) := by
  obtain ⟨k, rfl⟩ : ∃ k, y = k + 1 := ⟨y - 1, by omega⟩
  have hl := leaps_ge (y := k) (by omega)
  have H1 := Lib.hid (fun W => leaps_any k W (by omega))
  have H2 := Lib.hid (fun W => leaps_any 1899 W (by omega))
  have e2 : (leapsN 1899 : Int) = 460 := by decide
  have hu : leapsN k ≤ 10000 := by unfold leapsN; omega
  obtain ⟨L, hL⟩ : ∃ L, L = leapsN k := ⟨_, rfl⟩
  have hy' : (yd (k + 1) : Int) = 365 * ((k : Int) + 1 - 1900) + (L : Int) - 460 := by unfold yd; rw [Nat.add_sub_cancel, ← hL]; omega
  rw [hy']
  rw [← hL] at H1 hl hu
  rw [e2] at H2
  have ek : ((k + 1 : Nat) : Int) = (k : Int) + 1 := by omega
  rw [ek]
  clear hy' hL e2 ek
  go_enter Tryz.func54, Tryz.ntmps54
  go_wp2_with fail
  refine (H1.out _).mono ?_
  rintro e w' ⟨rfl, rfl⟩
  go_wp2_with fail
  refine (H2.out _).mono ?_
  rintro e w' ⟨rfl, rfl⟩
  go_wp2
  go_ret
  exact ⟨rfl, rfl⟩

end Go.Proofs.YtnmiiimbjojcmaaGreatDoor

namespace Go.Proofs.YtnmiiimbjojcmaaGreatDoor
open Go.RowKit

def inB (n a b : Int) : Bool := decide (a ≤ n) && decide (n ≤ b)
/-- The parts of a date, and an error. -/
def PartsPost (w : World) (y m d e0 : Int) (e : Ending) (w' : World) : Prop := e = .returned (.tuple #[.int .i64 y, .int .i64 m, .int .i64 d, .int .i64 e0]) ∧ Below w.heap.size w w'

def lensV (y : Nat) : Array Value := #[.int .i64 0, .int .i64 31, .int .i64 (longN y 2 : Int), .int .i64 31, .int .i64 30, .int .i64 31, .int .i64 30, .int .i64 31, .int .i64 31, .int .i64 30, .int .i64 31, .int .i64 30, .int .i64 31]
theorem lensV_get (y m : Nat) (h1 : 1 ≤ m) (h2 : m ≤ 12) : (lensV y)[m]? = some (.int .i64 (longN y m : Int)) := by
  have hm : m = 1 ∨ m = 2 ∨ m = 3 ∨ m = 4 ∨ m = 5 ∨ m = 6 ∨ m = 7 ∨ m = 8 ∨ m = 9 ∨ m = 10 ∨ m = 11 ∨ m = 12 := by omega
  rcases hm with rfl | rfl | rfl | rfl | rfl | rfl | rfl | rfl | rfl | rfl | rfl | rfl <;> rfl

set_option maxHeartbeats 1000000 in
set_option maxRecDepth 100000 in
theorem lengths_any (y : Nat) (w : World) (hy : y ≤ 10000) : Calls Tryz.prog 55 #[.int .i64 (y : Int)] w fun e w' => e = .returned (.agg (lensV y)) ∧ Below w.heap.size w w' := by
  have HL := Lib.hid (fun W => leap_any y W hy)
  unfold lensV
  rw [longN_2]
  obtain ⟨b, hb⟩ : ∃ b, b = leapB y := ⟨_, rfl⟩
  rw [← hb] at HL ⊢
  clear hb
  cases b
  · go_enter Tryz.func55, Tryz.ntmps55
    go_wp2_with fail
    refine (HL.out _).mono ?_
    rintro e w' ⟨rfl, rfl⟩
    go_wp2
    refine bodyPost_ret (results_cell_row rfl _ _ w.heap.size 74 _ (0, 0) _ rfl (heap_two _ _ _) Tryz.underlying74 rfl rfl) rfl ?_
    exact ⟨rfl, (own_below _ _).trans ((own_below _ _).mono (by simp))⟩
  · go_enter Tryz.func55, Tryz.ntmps55
    go_wp2_with fail
    refine (HL.out _).mono ?_
    rintro e w' ⟨rfl, rfl⟩
    go_wp2
    refine bodyPost_ret (results_cell_row rfl _ _ w.heap.size 74 _ (0, 0) _ rfl (heap_two _ _ _) Tryz.underlying74 rfl rfl) rfl ?_
    exact ⟨rfl, (own_below _ _).trans ((own_below _ _).mono (by simp))⟩

theorem first_is (y : Nat) (h1 : 1900 ≤ y) (hy : y ≤ 9999) : Hid (∀ W, Calls Tryz.prog 54 #[.int .i64 ((y : Int) + 1)] W (RetI W (yd (y + 1) : Int))) := fun W => by
  have := first_any' (y + 1) W (by omega) (by omega)
  rwa [show ((y + 1 : Nat) : Int) = (y : Int) + 1 by omega] at this

/-- The year so far. -/
def YrR (day : Nat) (v : Value) : Prop := ∃ y : Nat, v = .int .i64 (y : Int) ∧ 1900 ≤ y ∧ yd y ≤ day
/-- The month and the days so far. -/
def MoR (day y : Nat) (mv dv : Value) : Prop := ∃ m d : Nat, mv = .int .i64 (m : Int) ∧ dv = .int .i64 (d : Int) ∧ MonAt day y m d

set_option maxRecDepth 100000 in
theorem in3_any (n a b : Int) (w : World) : Calls Tryz.prog 68 #[.int .i64 n, .int .i64 a, .int .i64 b] w (RetB w (inB n a b)) := by
  unfold inB
  cases h1 : decide (a ≤ n) <;> cases h2 : decide (n ≤ b)
  all_goals
    go_enter Tryz.func68, Tryz.ntmps68
    go_wp2
    go_ret
    exact ⟨rfl, rfl⟩
set_option maxRecDepth 100000 in
theorem rday_any (n : Int) (w : World) : Calls Tryz.prog 71 #[.int .i64 n] w (RetB w (inB n 0 99999)) := by
  have H := Lib.hid (fun W => in3_any n 0 99999 W)
  go_enter Tryz.func71, Tryz.ntmps71
  go_wp2_with fail
  refine (H.out _).mono ?_
  rintro e w' ⟨rfl, rfl⟩
  go_wp2
  go_ret
  exact ⟨rfl, rfl⟩

theorem rday_is {n : Int} {b : Bool} (h : inB n 0 99999 = b) : Hid (∀ W, Calls Tryz.prog 71 #[.int .i64 n] W (RetB W b)) := fun W => h ▸ rday_any n W

/-- The reference's loop: year, month, days left. -/
def RpR (day : Nat) (rv yv mv : Value) : Prop := ∃ y m r : Nat, yv = .int .i64 (y : Int) ∧ mv = .int .i64 (m : Int) ∧ rv = .int .i64 (r : Int) ∧ RefAt day y m r

theorem longR_is (y m n : Nat) (hy : y ≤ 10000) (h1 : 1 ≤ m) (h2 : m ≤ 12) (hn : n = longN y m) : Hid (∀ W, Calls Tryz.prog 69 #[.int .i64 (y : Int), .int .i64 (m : Int)] W (RetI W (n : Int))) := fun W => hn ▸ long_any' y m W hy h1 h2

end Go.Proofs.YtnmiiimbjojcmaaGreatDoor

namespace Go.Proofs.YtnmiiimbjojcmaaGreatDoor
open Go.RowKit

theorem dig_val {d : Nat} (h : d < 10) : Value.int .u8 ((48 : Int) + (d : Int)) = .int .u8 ((UInt8.ofNat (48 + d)).toNat : Int) := by
  congr 1
  rw [UInt8.toNat_ofNat']; omega

/-- What digits hands back. -/
def DigsPost (B : Nat) (w : World) (l : List UInt8) (e : Ending) (w' : World) : Prop := ∃ v', e = .returned v' ∧ w'.ownsRow B 5 1 v' l.length (bytesV l) ∧ Below B w w'

/-- A text and an error. -/
theorem dtext_len (Y M D : Nat) : ([] ++ figB Y 4 ++ [45] ++ figB M 2 ++ [45] ++ figB D 2 : List UInt8) = dateB Y M D := by simp [dateB]

/-- The reference's loop over the digits. -/
def FigR (w : World) (n many : Nat) (nv sv iv : Value) (wr : World) : Prop :=
  ∃ (i m : Nat) (s : ByteArray), nv = .int .i64 (m : Int) ∧ sv = .string s ∧ iv = .int .i64 (i : Int) ∧ m ≤ n ∧ s.size = i ∧ FigAt n many s.data.toList i m ∧ Below w.heap.size w wr

end Go.Proofs.YtnmiiimbjojcmaaGreatDoor
