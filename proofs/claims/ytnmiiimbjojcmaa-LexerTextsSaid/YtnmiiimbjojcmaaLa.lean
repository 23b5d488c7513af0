/-
  Classes of bytes walked: the program's class, the reference's Mark. No condition.
-/
import Derived.Test.YtnmiiimbjojcmaaEa
import Derived.Test.YtnmiiimbjojcmaaRet
import Derived.Test.YtnmiiimbjojcmaaShelfb
namespace Go.Proofs.Ytnmiiimbjojcmaa
open Go.RowKit

def marksL : List UInt8 := [40, 41, 123, 125, 44, 59, 64, 43, 42]
/-- The class of a byte. -/
def classN (c : UInt8) : Int :=
  if c.toNat = 32 ∨ c.toNat = 9 ∨ c.toNat = 10 then 1 else if 48 ≤ c.toNat ∧ c.toNat ≤ 57 then 2 else if letB c = true then 3
  else if c.toNat = 95 ∨ c.toNat = 45 then 4 else if c ∈ marksL then 5 else if c.toNat = 34 then 6 else if c.toNat = 35 then 7 else 0
/-- Whether a byte is a mark. -/
def mkB (c : UInt8) : Bool := decide (c ∈ marksL) || decide (c.toNat = 45)
theorem marks_nat (c : UInt8) : c ∈ marksL ↔ c.toNat = 40 ∨ c.toNat = 41 ∨ c.toNat = 123 ∨ c.toNat = 125 ∨ c.toNat = 44 ∨ c.toNat = 59 ∨ c.toNat = 64 ∨ c.toNat = 43 ∨ c.toNat = 42 := by
  unfold marksL
  simp only [List.mem_cons, List.not_mem_nil, or_false, ← UInt8.toNat_inj]
  rfl
theorem idx_no {c : UInt8} (h : ¬ c ∈ marksL) : Lib.indexByte marksL c = -1 := by
  have h0 := Lib.indexByte_ge marksL c
  by_cases e : Lib.indexByte marksL c = -1
  · exact e
  · obtain ⟨o, ho⟩ : ∃ o : Nat, Lib.indexByte marksL c = o := ⟨(Lib.indexByte marksL c).toNat, by omega⟩
    exact absurd (List.mem_of_getElem? (Lib.indexByte_some ho).1) h
theorem bits_or (m : Nat) (h : m < 256) : bits BinOp.or IntKind.u8 (m : Int) 32 = ((if m.testBit 5 then m else m + 32 : Nat) : Int) := by
  have : ∀ m : Fin 256, bits BinOp.or IntKind.u8 ((m : Nat) : Int) 32 = ((if (m : Nat).testBit 5 then (m : Nat) else (m : Nat) + 32 : Nat) : Int) := by decide +kernel
  exact this ⟨m, h⟩
theorem bit5 (m : Nat) (h : m < 256) : m.testBit 5 = decide (m / 32 % 2 = 1) := by
  have : ∀ m : Fin 256, (m : Nat).testBit 5 = decide ((m : Nat) / 32 % 2 = 1) := by decide +kernel
  exact this ⟨m, h⟩
theorem bits_is {m : Nat} (h : m < 256) : bits BinOp.or IntKind.u8 (m : Int) 32 = ((if m / 32 % 2 = 1 then m else m + 32 : Nat) : Int) := by
  rw [bits_or m h, bit5 m h]; simp
theorem index_marks (c : UInt8) (w : World) : Calls Try.prog 29 #[.string ⟨#[40, 41, 123, 125, 44, 59, 64, 43, 42]⟩, .int .u8 (c.toNat : Int)] w fun e w' => e = .returned (.int .i64 (Lib.indexByte marksL c)) ∧ w = w' := by
  have := Try.strings_IndexByte ⟨#[40, 41, 123, 125, 44, 59, 64, 43, 42]⟩ (c.toNat : Int) w
  rw [show ((c.toNat : Int)).toNat.toUInt8 = c by simp] at this
  exact this.mono fun e w' ⟨a, b⟩ => ⟨a, b.symm⟩
theorem index_is {c : UInt8} {n : Int} (h : Lib.indexByte marksL c = n) : Hid (∀ W, Calls Try.prog 29 #[.string ⟨#[40, 41, 123, 125, 44, 59, 64, 43, 42]⟩, .int .u8 (c.toNat : Int)] W fun e w' => e = .returned (.int .i64 n) ∧ W = w') := fun W => h ▸ index_marks c W

set_option maxHeartbeats 1000000 in
set_option maxRecDepth 100000 in
theorem class_0 (c : UInt8) (w : World) (h1 : 0 ≤ c.toNat) (h2 : c.toNat ≤ 8) : Calls Try.prog 15 #[.int .u8 (c.toNat : Int)] w (RetI w (classN c)) := by
  have hv : classN c = 0 := by
    unfold classN letB
    simp only [marks_nat, decide_eq_true_eq]
    repeat' split
    all_goals omega
  rw [hv]
  have HI := index_is (c := c) (n := -1) (idx_no (by rw [marks_nat]; omega))
  have e32 : ((c.toNat : Int) == 32) = false := by simp <;> omega
  have e9 : ((c.toNat : Int) == 9) = false := by simp <;> omega
  have e10 : ((c.toNat : Int) == 10) = false := by simp <;> omega
  have e95 : ((c.toNat : Int) == 95) = false := by simp <;> omega
  have e45 : ((c.toNat : Int) == 45) = false := by simp <;> omega
  have e34 : ((c.toNat : Int) == 34) = false := by simp <;> omega
  have e35 : ((c.toNat : Int) == 35) = false := by simp <;> omega
  have p48 : (decide ((48 : Int) ≤ (c.toNat : Int))) = false := by simp <;> omega
  have p57 : (decide ((c.toNat : Int) ≤ 57)) = true := by simp <;> omega
  have hx : bits BinOp.or IntKind.u8 (c.toNat : Int) 32 = ((c.toNat + 32 : Nat) : Int) := by rw [bits_is (by omega), if_neg (by omega)]
  have p97 : (decide ((97 : Int) ≤ bits BinOp.or IntKind.u8 (c.toNat : Int) 32)) = false := by rw [hx]; simp <;> omega
  have p122 : (decide (bits BinOp.or IntKind.u8 (c.toNat : Int) 32 ≤ 122)) = true := by rw [hx]; simp <;> omega
  clear hx h1 h2 hv
  go_enter Try.func15, Try.ntmps15
  go_wp2_with fail
  refine (HI.out _).mono ?_
  rintro e w' ⟨rfl, rfl⟩
  go_wp2
  go_ret
  exact ⟨rfl, rfl⟩

set_option maxHeartbeats 1000000 in
set_option maxRecDepth 100000 in
theorem class_9 (c : UInt8) (w : World) (h1 : 9 ≤ c.toNat) (h2 : c.toNat ≤ 9) : Calls Try.prog 15 #[.int .u8 (c.toNat : Int)] w (RetI w (classN c)) := by
  have hv : classN c = 1 := by
    unfold classN letB
    simp only [marks_nat, decide_eq_true_eq]
    repeat' split
    all_goals omega
  rw [hv]
  have e32 : ((c.toNat : Int) == 32) = false := by simp <;> omega
  have e9 : ((c.toNat : Int) == 9) = true := by simp <;> omega
  have e10 : ((c.toNat : Int) == 10) = false := by simp <;> omega
  have e95 : ((c.toNat : Int) == 95) = false := by simp <;> omega
  have e45 : ((c.toNat : Int) == 45) = false := by simp <;> omega
  have e34 : ((c.toNat : Int) == 34) = false := by simp <;> omega
  have e35 : ((c.toNat : Int) == 35) = false := by simp <;> omega
  have p48 : (decide ((48 : Int) ≤ (c.toNat : Int))) = false := by simp <;> omega
  have p57 : (decide ((c.toNat : Int) ≤ 57)) = true := by simp <;> omega
  have hx : bits BinOp.or IntKind.u8 (c.toNat : Int) 32 = ((c.toNat + 32 : Nat) : Int) := by rw [bits_is (by omega), if_neg (by omega)]
  have p97 : (decide ((97 : Int) ≤ bits BinOp.or IntKind.u8 (c.toNat : Int) 32)) = false := by rw [hx]; simp <;> omega
  have p122 : (decide (bits BinOp.or IntKind.u8 (c.toNat : Int) 32 ≤ 122)) = true := by rw [hx]; simp <;> omega
  clear hx h1 h2 hv
  go_enter Try.func15, Try.ntmps15
  go_wp2
  go_ret
  exact ⟨rfl, rfl⟩

set_option maxHeartbeats 1000000 in
set_option maxRecDepth 100000 in
theorem class_10 (c : UInt8) (w : World) (h1 : 10 ≤ c.toNat) (h2 : c.toNat ≤ 10) : Calls Try.prog 15 #[.int .u8 (c.toNat : Int)] w (RetI w (classN c)) := by
  have hv : classN c = 1 := by
    unfold classN letB
    simp only [marks_nat, decide_eq_true_eq]
    repeat' split
    all_goals omega
  rw [hv]
  have e32 : ((c.toNat : Int) == 32) = false := by simp <;> omega
  have e9 : ((c.toNat : Int) == 9) = false := by simp <;> omega
  have e10 : ((c.toNat : Int) == 10) = true := by simp <;> omega
  have e95 : ((c.toNat : Int) == 95) = false := by simp <;> omega
  have e45 : ((c.toNat : Int) == 45) = false := by simp <;> omega
  have e34 : ((c.toNat : Int) == 34) = false := by simp <;> omega
  have e35 : ((c.toNat : Int) == 35) = false := by simp <;> omega
  have p48 : (decide ((48 : Int) ≤ (c.toNat : Int))) = false := by simp <;> omega
  have p57 : (decide ((c.toNat : Int) ≤ 57)) = true := by simp <;> omega
  have hx : bits BinOp.or IntKind.u8 (c.toNat : Int) 32 = ((c.toNat + 32 : Nat) : Int) := by rw [bits_is (by omega), if_neg (by omega)]
  have p97 : (decide ((97 : Int) ≤ bits BinOp.or IntKind.u8 (c.toNat : Int) 32)) = false := by rw [hx]; simp <;> omega
  have p122 : (decide (bits BinOp.or IntKind.u8 (c.toNat : Int) 32 ≤ 122)) = true := by rw [hx]; simp <;> omega
  clear hx h1 h2 hv
  go_enter Try.func15, Try.ntmps15
  go_wp2
  go_ret
  exact ⟨rfl, rfl⟩

set_option maxHeartbeats 1000000 in
set_option maxRecDepth 100000 in
theorem class_11 (c : UInt8) (w : World) (h1 : 11 ≤ c.toNat) (h2 : c.toNat ≤ 31) : Calls Try.prog 15 #[.int .u8 (c.toNat : Int)] w (RetI w (classN c)) := by
  have hv : classN c = 0 := by
    unfold classN letB
    simp only [marks_nat, decide_eq_true_eq]
    repeat' split
    all_goals omega
  rw [hv]
  have HI := index_is (c := c) (n := -1) (idx_no (by rw [marks_nat]; omega))
  have e32 : ((c.toNat : Int) == 32) = false := by simp <;> omega
  have e9 : ((c.toNat : Int) == 9) = false := by simp <;> omega
  have e10 : ((c.toNat : Int) == 10) = false := by simp <;> omega
  have e95 : ((c.toNat : Int) == 95) = false := by simp <;> omega
  have e45 : ((c.toNat : Int) == 45) = false := by simp <;> omega
  have e34 : ((c.toNat : Int) == 34) = false := by simp <;> omega
  have e35 : ((c.toNat : Int) == 35) = false := by simp <;> omega
  have p48 : (decide ((48 : Int) ≤ (c.toNat : Int))) = false := by simp <;> omega
  have p57 : (decide ((c.toNat : Int) ≤ 57)) = true := by simp <;> omega
  have hx : bits BinOp.or IntKind.u8 (c.toNat : Int) 32 = ((c.toNat + 32 : Nat) : Int) := by rw [bits_is (by omega), if_neg (by omega)]
  have p97 : (decide ((97 : Int) ≤ bits BinOp.or IntKind.u8 (c.toNat : Int) 32)) = false := by rw [hx]; simp <;> omega
  have p122 : (decide (bits BinOp.or IntKind.u8 (c.toNat : Int) 32 ≤ 122)) = true := by rw [hx]; simp <;> omega
  clear hx h1 h2 hv
  go_enter Try.func15, Try.ntmps15
  go_wp2_with fail
  refine (HI.out _).mono ?_
  rintro e w' ⟨rfl, rfl⟩
  go_wp2
  go_ret
  exact ⟨rfl, rfl⟩

set_option maxHeartbeats 1000000 in
set_option maxRecDepth 100000 in
theorem class_32 (c : UInt8) (w : World) (h1 : 32 ≤ c.toNat) (h2 : c.toNat ≤ 32) : Calls Try.prog 15 #[.int .u8 (c.toNat : Int)] w (RetI w (classN c)) := by
  have hv : classN c = 1 := by
    unfold classN letB
    simp only [marks_nat, decide_eq_true_eq]
    repeat' split
    all_goals omega
  rw [hv]
  have e32 : ((c.toNat : Int) == 32) = true := by simp <;> omega
  have e9 : ((c.toNat : Int) == 9) = false := by simp <;> omega
  have e10 : ((c.toNat : Int) == 10) = false := by simp <;> omega
  have e95 : ((c.toNat : Int) == 95) = false := by simp <;> omega
  have e45 : ((c.toNat : Int) == 45) = false := by simp <;> omega
  have e34 : ((c.toNat : Int) == 34) = false := by simp <;> omega
  have e35 : ((c.toNat : Int) == 35) = false := by simp <;> omega
  have p48 : (decide ((48 : Int) ≤ (c.toNat : Int))) = false := by simp <;> omega
  have p57 : (decide ((c.toNat : Int) ≤ 57)) = true := by simp <;> omega
  have hx : bits BinOp.or IntKind.u8 (c.toNat : Int) 32 = ((c.toNat : Nat) : Int) := by rw [bits_is (by omega), if_pos (by omega)]
  have p97 : (decide ((97 : Int) ≤ bits BinOp.or IntKind.u8 (c.toNat : Int) 32)) = false := by rw [hx]; simp <;> omega
  have p122 : (decide (bits BinOp.or IntKind.u8 (c.toNat : Int) 32 ≤ 122)) = true := by rw [hx]; simp <;> omega
  clear hx h1 h2 hv
  go_enter Try.func15, Try.ntmps15
  go_wp2
  go_ret
  exact ⟨rfl, rfl⟩

set_option maxHeartbeats 1000000 in
set_option maxRecDepth 100000 in
theorem class_33 (c : UInt8) (w : World) (h1 : 33 ≤ c.toNat) (h2 : c.toNat ≤ 33) : Calls Try.prog 15 #[.int .u8 (c.toNat : Int)] w (RetI w (classN c)) := by
  have hv : classN c = 0 := by
    unfold classN letB
    simp only [marks_nat, decide_eq_true_eq]
    repeat' split
    all_goals omega
  rw [hv]
  have HI := index_is (c := c) (n := -1) (idx_no (by rw [marks_nat]; omega))
  have e32 : ((c.toNat : Int) == 32) = false := by simp <;> omega
  have e9 : ((c.toNat : Int) == 9) = false := by simp <;> omega
  have e10 : ((c.toNat : Int) == 10) = false := by simp <;> omega
  have e95 : ((c.toNat : Int) == 95) = false := by simp <;> omega
  have e45 : ((c.toNat : Int) == 45) = false := by simp <;> omega
  have e34 : ((c.toNat : Int) == 34) = false := by simp <;> omega
  have e35 : ((c.toNat : Int) == 35) = false := by simp <;> omega
  have p48 : (decide ((48 : Int) ≤ (c.toNat : Int))) = false := by simp <;> omega
  have p57 : (decide ((c.toNat : Int) ≤ 57)) = true := by simp <;> omega
  have hx : bits BinOp.or IntKind.u8 (c.toNat : Int) 32 = ((c.toNat : Nat) : Int) := by rw [bits_is (by omega), if_pos (by omega)]
  have p97 : (decide ((97 : Int) ≤ bits BinOp.or IntKind.u8 (c.toNat : Int) 32)) = false := by rw [hx]; simp <;> omega
  have p122 : (decide (bits BinOp.or IntKind.u8 (c.toNat : Int) 32 ≤ 122)) = true := by rw [hx]; simp <;> omega
  clear hx h1 h2 hv
  go_enter Try.func15, Try.ntmps15
  go_wp2_with fail
  refine (HI.out _).mono ?_
  rintro e w' ⟨rfl, rfl⟩
  go_wp2
  go_ret
  exact ⟨rfl, rfl⟩

set_option maxHeartbeats 1000000 in
set_option maxRecDepth 100000 in
theorem class_34 (c : UInt8) (w : World) (h1 : 34 ≤ c.toNat) (h2 : c.toNat ≤ 34) : Calls Try.prog 15 #[.int .u8 (c.toNat : Int)] w (RetI w (classN c)) := by
  have hv : classN c = 6 := by
    unfold classN letB
    simp only [marks_nat, decide_eq_true_eq]
    repeat' split
    all_goals omega
  rw [hv]
  have HI := index_is (c := c) (n := -1) (idx_no (by rw [marks_nat]; omega))
  have e32 : ((c.toNat : Int) == 32) = false := by simp <;> omega
  have e9 : ((c.toNat : Int) == 9) = false := by simp <;> omega
  have e10 : ((c.toNat : Int) == 10) = false := by simp <;> omega
  have e95 : ((c.toNat : Int) == 95) = false := by simp <;> omega
  have e45 : ((c.toNat : Int) == 45) = false := by simp <;> omega
  have e34 : ((c.toNat : Int) == 34) = true := by simp <;> omega
  have e35 : ((c.toNat : Int) == 35) = false := by simp <;> omega
  have p48 : (decide ((48 : Int) ≤ (c.toNat : Int))) = false := by simp <;> omega
  have p57 : (decide ((c.toNat : Int) ≤ 57)) = true := by simp <;> omega
  have hx : bits BinOp.or IntKind.u8 (c.toNat : Int) 32 = ((c.toNat : Nat) : Int) := by rw [bits_is (by omega), if_pos (by omega)]
  have p97 : (decide ((97 : Int) ≤ bits BinOp.or IntKind.u8 (c.toNat : Int) 32)) = false := by rw [hx]; simp <;> omega
  have p122 : (decide (bits BinOp.or IntKind.u8 (c.toNat : Int) 32 ≤ 122)) = true := by rw [hx]; simp <;> omega
  clear hx h1 h2 hv
  go_enter Try.func15, Try.ntmps15
  go_wp2_with fail
  refine (HI.out _).mono ?_
  rintro e w' ⟨rfl, rfl⟩
  go_wp2
  go_ret
  exact ⟨rfl, rfl⟩

set_option maxHeartbeats 1000000 in
set_option maxRecDepth 100000 in
theorem class_35 (c : UInt8) (w : World) (h1 : 35 ≤ c.toNat) (h2 : c.toNat ≤ 35) : Calls Try.prog 15 #[.int .u8 (c.toNat : Int)] w (RetI w (classN c)) := by
  have hv : classN c = 7 := by
    unfold classN letB
    simp only [marks_nat, decide_eq_true_eq]
    repeat' split
    all_goals omega
  rw [hv]
  have HI := index_is (c := c) (n := -1) (idx_no (by rw [marks_nat]; omega))
  have e32 : ((c.toNat : Int) == 32) = false := by simp <;> omega
  have e9 : ((c.toNat : Int) == 9) = false := by simp <;> omega
  have e10 : ((c.toNat : Int) == 10) = false := by simp <;> omega
  have e95 : ((c.toNat : Int) == 95) = false := by simp <;> omega
  have e45 : ((c.toNat : Int) == 45) = false := by simp <;> omega
  have e34 : ((c.toNat : Int) == 34) = false := by simp <;> omega
  have e35 : ((c.toNat : Int) == 35) = true := by simp <;> omega
  have p48 : (decide ((48 : Int) ≤ (c.toNat : Int))) = false := by simp <;> omega
  have p57 : (decide ((c.toNat : Int) ≤ 57)) = true := by simp <;> omega
  have hx : bits BinOp.or IntKind.u8 (c.toNat : Int) 32 = ((c.toNat : Nat) : Int) := by rw [bits_is (by omega), if_pos (by omega)]
  have p97 : (decide ((97 : Int) ≤ bits BinOp.or IntKind.u8 (c.toNat : Int) 32)) = false := by rw [hx]; simp <;> omega
  have p122 : (decide (bits BinOp.or IntKind.u8 (c.toNat : Int) 32 ≤ 122)) = true := by rw [hx]; simp <;> omega
  clear hx h1 h2 hv
  go_enter Try.func15, Try.ntmps15
  go_wp2_with fail
  refine (HI.out _).mono ?_
  rintro e w' ⟨rfl, rfl⟩
  go_wp2
  go_ret
  exact ⟨rfl, rfl⟩

set_option maxHeartbeats 1000000 in
set_option maxRecDepth 100000 in
theorem class_36 (c : UInt8) (w : World) (h1 : 36 ≤ c.toNat) (h2 : c.toNat ≤ 39) : Calls Try.prog 15 #[.int .u8 (c.toNat : Int)] w (RetI w (classN c)) := by
  have hv : classN c = 0 := by
    unfold classN letB
    simp only [marks_nat, decide_eq_true_eq]
    repeat' split
    all_goals omega
  rw [hv]
  have HI := index_is (c := c) (n := -1) (idx_no (by rw [marks_nat]; omega))
  have e32 : ((c.toNat : Int) == 32) = false := by simp <;> omega
  have e9 : ((c.toNat : Int) == 9) = false := by simp <;> omega
  have e10 : ((c.toNat : Int) == 10) = false := by simp <;> omega
  have e95 : ((c.toNat : Int) == 95) = false := by simp <;> omega
  have e45 : ((c.toNat : Int) == 45) = false := by simp <;> omega
  have e34 : ((c.toNat : Int) == 34) = false := by simp <;> omega
  have e35 : ((c.toNat : Int) == 35) = false := by simp <;> omega
  have p48 : (decide ((48 : Int) ≤ (c.toNat : Int))) = false := by simp <;> omega
  have p57 : (decide ((c.toNat : Int) ≤ 57)) = true := by simp <;> omega
  have hx : bits BinOp.or IntKind.u8 (c.toNat : Int) 32 = ((c.toNat : Nat) : Int) := by rw [bits_is (by omega), if_pos (by omega)]
  have p97 : (decide ((97 : Int) ≤ bits BinOp.or IntKind.u8 (c.toNat : Int) 32)) = false := by rw [hx]; simp <;> omega
  have p122 : (decide (bits BinOp.or IntKind.u8 (c.toNat : Int) 32 ≤ 122)) = true := by rw [hx]; simp <;> omega
  clear hx h1 h2 hv
  go_enter Try.func15, Try.ntmps15
  go_wp2_with fail
  refine (HI.out _).mono ?_
  rintro e w' ⟨rfl, rfl⟩
  go_wp2
  go_ret
  exact ⟨rfl, rfl⟩

set_option maxHeartbeats 1000000 in
set_option maxRecDepth 100000 in
theorem class_40 (c : UInt8) (w : World) (h1 : 40 ≤ c.toNat) (h2 : c.toNat ≤ 40) : Calls Try.prog 15 #[.int .u8 (c.toNat : Int)] w (RetI w (classN c)) := by
  have hv : classN c = 5 := by
    unfold classN letB
    simp only [marks_nat, decide_eq_true_eq]
    repeat' split
    all_goals omega
  rw [hv]
  have HI := index_is (c := c) (n := 0) (by
    have : c = 40 := UInt8.toNat_inj.1 (by show c.toNat = 40; omega)
    rw [this]; rfl)
  have e32 : ((c.toNat : Int) == 32) = false := by simp <;> omega
  have e9 : ((c.toNat : Int) == 9) = false := by simp <;> omega
  have e10 : ((c.toNat : Int) == 10) = false := by simp <;> omega
  have e95 : ((c.toNat : Int) == 95) = false := by simp <;> omega
  have e45 : ((c.toNat : Int) == 45) = false := by simp <;> omega
  have e34 : ((c.toNat : Int) == 34) = false := by simp <;> omega
  have e35 : ((c.toNat : Int) == 35) = false := by simp <;> omega
  have p48 : (decide ((48 : Int) ≤ (c.toNat : Int))) = false := by simp <;> omega
  have p57 : (decide ((c.toNat : Int) ≤ 57)) = true := by simp <;> omega
  have hx : bits BinOp.or IntKind.u8 (c.toNat : Int) 32 = ((c.toNat : Nat) : Int) := by rw [bits_is (by omega), if_pos (by omega)]
  have p97 : (decide ((97 : Int) ≤ bits BinOp.or IntKind.u8 (c.toNat : Int) 32)) = false := by rw [hx]; simp <;> omega
  have p122 : (decide (bits BinOp.or IntKind.u8 (c.toNat : Int) 32 ≤ 122)) = true := by rw [hx]; simp <;> omega
  clear hx h1 h2 hv
  go_enter Try.func15, Try.ntmps15
  go_wp2_with fail
  refine (HI.out _).mono ?_
  rintro e w' ⟨rfl, rfl⟩
  go_wp2
  go_ret
  exact ⟨rfl, rfl⟩

set_option maxHeartbeats 1000000 in
set_option maxRecDepth 100000 in
theorem class_41 (c : UInt8) (w : World) (h1 : 41 ≤ c.toNat) (h2 : c.toNat ≤ 41) : Calls Try.prog 15 #[.int .u8 (c.toNat : Int)] w (RetI w (classN c)) := by
  have hv : classN c = 5 := by
    unfold classN letB
    simp only [marks_nat, decide_eq_true_eq]
    repeat' split
    all_goals omega
  rw [hv]
  have HI := index_is (c := c) (n := 1) (by
    have : c = 41 := UInt8.toNat_inj.1 (by show c.toNat = 41; omega)
    rw [this]; rfl)
  have e32 : ((c.toNat : Int) == 32) = false := by simp <;> omega
  have e9 : ((c.toNat : Int) == 9) = false := by simp <;> omega
  have e10 : ((c.toNat : Int) == 10) = false := by simp <;> omega
  have e95 : ((c.toNat : Int) == 95) = false := by simp <;> omega
  have e45 : ((c.toNat : Int) == 45) = false := by simp <;> omega
  have e34 : ((c.toNat : Int) == 34) = false := by simp <;> omega
  have e35 : ((c.toNat : Int) == 35) = false := by simp <;> omega
  have p48 : (decide ((48 : Int) ≤ (c.toNat : Int))) = false := by simp <;> omega
  have p57 : (decide ((c.toNat : Int) ≤ 57)) = true := by simp <;> omega
  have hx : bits BinOp.or IntKind.u8 (c.toNat : Int) 32 = ((c.toNat : Nat) : Int) := by rw [bits_is (by omega), if_pos (by omega)]
  have p97 : (decide ((97 : Int) ≤ bits BinOp.or IntKind.u8 (c.toNat : Int) 32)) = false := by rw [hx]; simp <;> omega
  have p122 : (decide (bits BinOp.or IntKind.u8 (c.toNat : Int) 32 ≤ 122)) = true := by rw [hx]; simp <;> omega
  clear hx h1 h2 hv
  go_enter Try.func15, Try.ntmps15
  go_wp2_with fail
  refine (HI.out _).mono ?_
  rintro e w' ⟨rfl, rfl⟩
  go_wp2
  go_ret
  exact ⟨rfl, rfl⟩

set_option maxHeartbeats 1000000 in
set_option maxRecDepth 100000 in
theorem class_42 (c : UInt8) (w : World) (h1 : 42 ≤ c.toNat) (h2 : c.toNat ≤ 42) : Calls Try.prog 15 #[.int .u8 (c.toNat : Int)] w (RetI w (classN c)) := by
  have hv : classN c = 5 := by
    unfold classN letB
    simp only [marks_nat, decide_eq_true_eq]
    repeat' split
    all_goals omega
  rw [hv]
  have HI := index_is (c := c) (n := 8) (by
    have : c = 42 := UInt8.toNat_inj.1 (by show c.toNat = 42; omega)
    rw [this]; rfl)
  have e32 : ((c.toNat : Int) == 32) = false := by simp <;> omega
  have e9 : ((c.toNat : Int) == 9) = false := by simp <;> omega
  have e10 : ((c.toNat : Int) == 10) = false := by simp <;> omega
  have e95 : ((c.toNat : Int) == 95) = false := by simp <;> omega
  have e45 : ((c.toNat : Int) == 45) = false := by simp <;> omega
  have e34 : ((c.toNat : Int) == 34) = false := by simp <;> omega
  have e35 : ((c.toNat : Int) == 35) = false := by simp <;> omega
  have p48 : (decide ((48 : Int) ≤ (c.toNat : Int))) = false := by simp <;> omega
  have p57 : (decide ((c.toNat : Int) ≤ 57)) = true := by simp <;> omega
  have hx : bits BinOp.or IntKind.u8 (c.toNat : Int) 32 = ((c.toNat : Nat) : Int) := by rw [bits_is (by omega), if_pos (by omega)]
  have p97 : (decide ((97 : Int) ≤ bits BinOp.or IntKind.u8 (c.toNat : Int) 32)) = false := by rw [hx]; simp <;> omega
  have p122 : (decide (bits BinOp.or IntKind.u8 (c.toNat : Int) 32 ≤ 122)) = true := by rw [hx]; simp <;> omega
  clear hx h1 h2 hv
  go_enter Try.func15, Try.ntmps15
  go_wp2_with fail
  refine (HI.out _).mono ?_
  rintro e w' ⟨rfl, rfl⟩
  go_wp2
  go_ret
  exact ⟨rfl, rfl⟩

set_option maxHeartbeats 1000000 in
set_option maxRecDepth 100000 in
theorem class_43 (c : UInt8) (w : World) (h1 : 43 ≤ c.toNat) (h2 : c.toNat ≤ 43) : Calls Try.prog 15 #[.int .u8 (c.toNat : Int)] w (RetI w (classN c)) := by
  have hv : classN c = 5 := by
    unfold classN letB
    simp only [marks_nat, decide_eq_true_eq]
    repeat' split
    all_goals omega
  rw [hv]
  have HI := index_is (c := c) (n := 7) (by
    have : c = 43 := UInt8.toNat_inj.1 (by show c.toNat = 43; omega)
    rw [this]; rfl)
  have e32 : ((c.toNat : Int) == 32) = false := by simp <;> omega
  have e9 : ((c.toNat : Int) == 9) = false := by simp <;> omega
  have e10 : ((c.toNat : Int) == 10) = false := by simp <;> omega
  have e95 : ((c.toNat : Int) == 95) = false := by simp <;> omega
  have e45 : ((c.toNat : Int) == 45) = false := by simp <;> omega
  have e34 : ((c.toNat : Int) == 34) = false := by simp <;> omega
  have e35 : ((c.toNat : Int) == 35) = false := by simp <;> omega
  have p48 : (decide ((48 : Int) ≤ (c.toNat : Int))) = false := by simp <;> omega
  have p57 : (decide ((c.toNat : Int) ≤ 57)) = true := by simp <;> omega
  have hx : bits BinOp.or IntKind.u8 (c.toNat : Int) 32 = ((c.toNat : Nat) : Int) := by rw [bits_is (by omega), if_pos (by omega)]
  have p97 : (decide ((97 : Int) ≤ bits BinOp.or IntKind.u8 (c.toNat : Int) 32)) = false := by rw [hx]; simp <;> omega
  have p122 : (decide (bits BinOp.or IntKind.u8 (c.toNat : Int) 32 ≤ 122)) = true := by rw [hx]; simp <;> omega
  clear hx h1 h2 hv
  go_enter Try.func15, Try.ntmps15
  go_wp2_with fail
  refine (HI.out _).mono ?_
  rintro e w' ⟨rfl, rfl⟩
  go_wp2
  go_ret
  exact ⟨rfl, rfl⟩

set_option maxHeartbeats 1000000 in
set_option maxRecDepth 100000 in
theorem class_44 (c : UInt8) (w : World) (h1 : 44 ≤ c.toNat) (h2 : c.toNat ≤ 44) : Calls Try.prog 15 #[.int .u8 (c.toNat : Int)] w (RetI w (classN c)) := by
  have hv : classN c = 5 := by
    unfold classN letB
    simp only [marks_nat, decide_eq_true_eq]
    repeat' split
    all_goals omega
  rw [hv]
  have HI := index_is (c := c) (n := 4) (by
    have : c = 44 := UInt8.toNat_inj.1 (by show c.toNat = 44; omega)
    rw [this]; rfl)
  have e32 : ((c.toNat : Int) == 32) = false := by simp <;> omega
  have e9 : ((c.toNat : Int) == 9) = false := by simp <;> omega
  have e10 : ((c.toNat : Int) == 10) = false := by simp <;> omega
  have e95 : ((c.toNat : Int) == 95) = false := by simp <;> omega
  have e45 : ((c.toNat : Int) == 45) = false := by simp <;> omega
  have e34 : ((c.toNat : Int) == 34) = false := by simp <;> omega
  have e35 : ((c.toNat : Int) == 35) = false := by simp <;> omega
  have p48 : (decide ((48 : Int) ≤ (c.toNat : Int))) = false := by simp <;> omega
  have p57 : (decide ((c.toNat : Int) ≤ 57)) = true := by simp <;> omega
  have hx : bits BinOp.or IntKind.u8 (c.toNat : Int) 32 = ((c.toNat : Nat) : Int) := by rw [bits_is (by omega), if_pos (by omega)]
  have p97 : (decide ((97 : Int) ≤ bits BinOp.or IntKind.u8 (c.toNat : Int) 32)) = false := by rw [hx]; simp <;> omega
  have p122 : (decide (bits BinOp.or IntKind.u8 (c.toNat : Int) 32 ≤ 122)) = true := by rw [hx]; simp <;> omega
  clear hx h1 h2 hv
  go_enter Try.func15, Try.ntmps15
  go_wp2_with fail
  refine (HI.out _).mono ?_
  rintro e w' ⟨rfl, rfl⟩
  go_wp2
  go_ret
  exact ⟨rfl, rfl⟩

set_option maxHeartbeats 1000000 in
set_option maxRecDepth 100000 in
theorem class_45 (c : UInt8) (w : World) (h1 : 45 ≤ c.toNat) (h2 : c.toNat ≤ 45) : Calls Try.prog 15 #[.int .u8 (c.toNat : Int)] w (RetI w (classN c)) := by
  have hv : classN c = 4 := by
    unfold classN letB
    simp only [marks_nat, decide_eq_true_eq]
    repeat' split
    all_goals omega
  rw [hv]
  have e32 : ((c.toNat : Int) == 32) = false := by simp <;> omega
  have e9 : ((c.toNat : Int) == 9) = false := by simp <;> omega
  have e10 : ((c.toNat : Int) == 10) = false := by simp <;> omega
  have e95 : ((c.toNat : Int) == 95) = false := by simp <;> omega
  have e45 : ((c.toNat : Int) == 45) = true := by simp <;> omega
  have e34 : ((c.toNat : Int) == 34) = false := by simp <;> omega
  have e35 : ((c.toNat : Int) == 35) = false := by simp <;> omega
  have p48 : (decide ((48 : Int) ≤ (c.toNat : Int))) = false := by simp <;> omega
  have p57 : (decide ((c.toNat : Int) ≤ 57)) = true := by simp <;> omega
  have hx : bits BinOp.or IntKind.u8 (c.toNat : Int) 32 = ((c.toNat : Nat) : Int) := by rw [bits_is (by omega), if_pos (by omega)]
  have p97 : (decide ((97 : Int) ≤ bits BinOp.or IntKind.u8 (c.toNat : Int) 32)) = false := by rw [hx]; simp <;> omega
  have p122 : (decide (bits BinOp.or IntKind.u8 (c.toNat : Int) 32 ≤ 122)) = true := by rw [hx]; simp <;> omega
  clear hx h1 h2 hv
  go_enter Try.func15, Try.ntmps15
  go_wp2
  go_ret
  exact ⟨rfl, rfl⟩

set_option maxHeartbeats 1000000 in
set_option maxRecDepth 100000 in
theorem class_46 (c : UInt8) (w : World) (h1 : 46 ≤ c.toNat) (h2 : c.toNat ≤ 47) : Calls Try.prog 15 #[.int .u8 (c.toNat : Int)] w (RetI w (classN c)) := by
  have hv : classN c = 0 := by
    unfold classN letB
    simp only [marks_nat, decide_eq_true_eq]
    repeat' split
    all_goals omega
  rw [hv]
  have HI := index_is (c := c) (n := -1) (idx_no (by rw [marks_nat]; omega))
  have e32 : ((c.toNat : Int) == 32) = false := by simp <;> omega
  have e9 : ((c.toNat : Int) == 9) = false := by simp <;> omega
  have e10 : ((c.toNat : Int) == 10) = false := by simp <;> omega
  have e95 : ((c.toNat : Int) == 95) = false := by simp <;> omega
  have e45 : ((c.toNat : Int) == 45) = false := by simp <;> omega
  have e34 : ((c.toNat : Int) == 34) = false := by simp <;> omega
  have e35 : ((c.toNat : Int) == 35) = false := by simp <;> omega
  have p48 : (decide ((48 : Int) ≤ (c.toNat : Int))) = false := by simp <;> omega
  have p57 : (decide ((c.toNat : Int) ≤ 57)) = true := by simp <;> omega
  have hx : bits BinOp.or IntKind.u8 (c.toNat : Int) 32 = ((c.toNat : Nat) : Int) := by rw [bits_is (by omega), if_pos (by omega)]
  have p97 : (decide ((97 : Int) ≤ bits BinOp.or IntKind.u8 (c.toNat : Int) 32)) = false := by rw [hx]; simp <;> omega
  have p122 : (decide (bits BinOp.or IntKind.u8 (c.toNat : Int) 32 ≤ 122)) = true := by rw [hx]; simp <;> omega
  clear hx h1 h2 hv
  go_enter Try.func15, Try.ntmps15
  go_wp2_with fail
  refine (HI.out _).mono ?_
  rintro e w' ⟨rfl, rfl⟩
  go_wp2
  go_ret
  exact ⟨rfl, rfl⟩

set_option maxHeartbeats 1000000 in
set_option maxRecDepth 100000 in
theorem class_48 (c : UInt8) (w : World) (h1 : 48 ≤ c.toNat) (h2 : c.toNat ≤ 57) : Calls Try.prog 15 #[.int .u8 (c.toNat : Int)] w (RetI w (classN c)) := by
  have hv : classN c = 2 := by
    unfold classN letB
    simp only [marks_nat, decide_eq_true_eq]
    repeat' split
    all_goals omega
  rw [hv]
  have e32 : ((c.toNat : Int) == 32) = false := by simp <;> omega
  have e9 : ((c.toNat : Int) == 9) = false := by simp <;> omega
  have e10 : ((c.toNat : Int) == 10) = false := by simp <;> omega
  have e95 : ((c.toNat : Int) == 95) = false := by simp <;> omega
  have e45 : ((c.toNat : Int) == 45) = false := by simp <;> omega
  have e34 : ((c.toNat : Int) == 34) = false := by simp <;> omega
  have e35 : ((c.toNat : Int) == 35) = false := by simp <;> omega
  have p48 : (decide ((48 : Int) ≤ (c.toNat : Int))) = true := by simp <;> omega
  have p57 : (decide ((c.toNat : Int) ≤ 57)) = true := by simp <;> omega
  have hx : bits BinOp.or IntKind.u8 (c.toNat : Int) 32 = ((c.toNat : Nat) : Int) := by rw [bits_is (by omega), if_pos (by omega)]
  have p97 : (decide ((97 : Int) ≤ bits BinOp.or IntKind.u8 (c.toNat : Int) 32)) = false := by rw [hx]; simp <;> omega
  have p122 : (decide (bits BinOp.or IntKind.u8 (c.toNat : Int) 32 ≤ 122)) = true := by rw [hx]; simp <;> omega
  clear hx h1 h2 hv
  go_enter Try.func15, Try.ntmps15
  go_wp2
  go_ret
  exact ⟨rfl, rfl⟩

set_option maxHeartbeats 1000000 in
set_option maxRecDepth 100000 in
theorem class_58 (c : UInt8) (w : World) (h1 : 58 ≤ c.toNat) (h2 : c.toNat ≤ 58) : Calls Try.prog 15 #[.int .u8 (c.toNat : Int)] w (RetI w (classN c)) := by
  have hv : classN c = 0 := by
    unfold classN letB
    simp only [marks_nat, decide_eq_true_eq]
    repeat' split
    all_goals omega
  rw [hv]
  have HI := index_is (c := c) (n := -1) (idx_no (by rw [marks_nat]; omega))
  have e32 : ((c.toNat : Int) == 32) = false := by simp <;> omega
  have e9 : ((c.toNat : Int) == 9) = false := by simp <;> omega
  have e10 : ((c.toNat : Int) == 10) = false := by simp <;> omega
  have e95 : ((c.toNat : Int) == 95) = false := by simp <;> omega
  have e45 : ((c.toNat : Int) == 45) = false := by simp <;> omega
  have e34 : ((c.toNat : Int) == 34) = false := by simp <;> omega
  have e35 : ((c.toNat : Int) == 35) = false := by simp <;> omega
  have p48 : (decide ((48 : Int) ≤ (c.toNat : Int))) = true := by simp <;> omega
  have p57 : (decide ((c.toNat : Int) ≤ 57)) = false := by simp <;> omega
  have hx : bits BinOp.or IntKind.u8 (c.toNat : Int) 32 = ((c.toNat : Nat) : Int) := by rw [bits_is (by omega), if_pos (by omega)]
  have p97 : (decide ((97 : Int) ≤ bits BinOp.or IntKind.u8 (c.toNat : Int) 32)) = false := by rw [hx]; simp <;> omega
  have p122 : (decide (bits BinOp.or IntKind.u8 (c.toNat : Int) 32 ≤ 122)) = true := by rw [hx]; simp <;> omega
  clear hx h1 h2 hv
  go_enter Try.func15, Try.ntmps15
  go_wp2_with fail
  refine (HI.out _).mono ?_
  rintro e w' ⟨rfl, rfl⟩
  go_wp2
  go_ret
  exact ⟨rfl, rfl⟩

set_option maxHeartbeats 1000000 in
set_option maxRecDepth 100000 in
theorem class_59 (c : UInt8) (w : World) (h1 : 59 ≤ c.toNat) (h2 : c.toNat ≤ 59) : Calls Try.prog 15 #[.int .u8 (c.toNat : Int)] w (RetI w (classN c)) := by
  have hv : classN c = 5 := by
    unfold classN letB
    simp only [marks_nat, decide_eq_true_eq]
    repeat' split
    all_goals omega
  rw [hv]
  have HI := index_is (c := c) (n := 5) (by
    have : c = 59 := UInt8.toNat_inj.1 (by show c.toNat = 59; omega)
    rw [this]; rfl)
  have e32 : ((c.toNat : Int) == 32) = false := by simp <;> omega
  have e9 : ((c.toNat : Int) == 9) = false := by simp <;> omega
  have e10 : ((c.toNat : Int) == 10) = false := by simp <;> omega
  have e95 : ((c.toNat : Int) == 95) = false := by simp <;> omega
  have e45 : ((c.toNat : Int) == 45) = false := by simp <;> omega
  have e34 : ((c.toNat : Int) == 34) = false := by simp <;> omega
  have e35 : ((c.toNat : Int) == 35) = false := by simp <;> omega
  have p48 : (decide ((48 : Int) ≤ (c.toNat : Int))) = true := by simp <;> omega
  have p57 : (decide ((c.toNat : Int) ≤ 57)) = false := by simp <;> omega
  have hx : bits BinOp.or IntKind.u8 (c.toNat : Int) 32 = ((c.toNat : Nat) : Int) := by rw [bits_is (by omega), if_pos (by omega)]
  have p97 : (decide ((97 : Int) ≤ bits BinOp.or IntKind.u8 (c.toNat : Int) 32)) = false := by rw [hx]; simp <;> omega
  have p122 : (decide (bits BinOp.or IntKind.u8 (c.toNat : Int) 32 ≤ 122)) = true := by rw [hx]; simp <;> omega
  clear hx h1 h2 hv
  go_enter Try.func15, Try.ntmps15
  go_wp2_with fail
  refine (HI.out _).mono ?_
  rintro e w' ⟨rfl, rfl⟩
  go_wp2
  go_ret
  exact ⟨rfl, rfl⟩

set_option maxHeartbeats 1000000 in
set_option maxRecDepth 100000 in
theorem class_60 (c : UInt8) (w : World) (h1 : 60 ≤ c.toNat) (h2 : c.toNat ≤ 63) : Calls Try.prog 15 #[.int .u8 (c.toNat : Int)] w (RetI w (classN c)) := by
  have hv : classN c = 0 := by
    unfold classN letB
    simp only [marks_nat, decide_eq_true_eq]
    repeat' split
    all_goals omega
  rw [hv]
  have HI := index_is (c := c) (n := -1) (idx_no (by rw [marks_nat]; omega))
  have e32 : ((c.toNat : Int) == 32) = false := by simp <;> omega
  have e9 : ((c.toNat : Int) == 9) = false := by simp <;> omega
  have e10 : ((c.toNat : Int) == 10) = false := by simp <;> omega
  have e95 : ((c.toNat : Int) == 95) = false := by simp <;> omega
  have e45 : ((c.toNat : Int) == 45) = false := by simp <;> omega
  have e34 : ((c.toNat : Int) == 34) = false := by simp <;> omega
  have e35 : ((c.toNat : Int) == 35) = false := by simp <;> omega
  have p48 : (decide ((48 : Int) ≤ (c.toNat : Int))) = true := by simp <;> omega
  have p57 : (decide ((c.toNat : Int) ≤ 57)) = false := by simp <;> omega
  have hx : bits BinOp.or IntKind.u8 (c.toNat : Int) 32 = ((c.toNat : Nat) : Int) := by rw [bits_is (by omega), if_pos (by omega)]
  have p97 : (decide ((97 : Int) ≤ bits BinOp.or IntKind.u8 (c.toNat : Int) 32)) = false := by rw [hx]; simp <;> omega
  have p122 : (decide (bits BinOp.or IntKind.u8 (c.toNat : Int) 32 ≤ 122)) = true := by rw [hx]; simp <;> omega
  clear hx h1 h2 hv
  go_enter Try.func15, Try.ntmps15
  go_wp2_with fail
  refine (HI.out _).mono ?_
  rintro e w' ⟨rfl, rfl⟩
  go_wp2
  go_ret
  exact ⟨rfl, rfl⟩

set_option maxHeartbeats 1000000 in
set_option maxRecDepth 100000 in
theorem class_64 (c : UInt8) (w : World) (h1 : 64 ≤ c.toNat) (h2 : c.toNat ≤ 64) : Calls Try.prog 15 #[.int .u8 (c.toNat : Int)] w (RetI w (classN c)) := by
  have hv : classN c = 5 := by
    unfold classN letB
    simp only [marks_nat, decide_eq_true_eq]
    repeat' split
    all_goals omega
  rw [hv]
  have HI := index_is (c := c) (n := 6) (by
    have : c = 64 := UInt8.toNat_inj.1 (by show c.toNat = 64; omega)
    rw [this]; rfl)
  have e32 : ((c.toNat : Int) == 32) = false := by simp <;> omega
  have e9 : ((c.toNat : Int) == 9) = false := by simp <;> omega
  have e10 : ((c.toNat : Int) == 10) = false := by simp <;> omega
  have e95 : ((c.toNat : Int) == 95) = false := by simp <;> omega
  have e45 : ((c.toNat : Int) == 45) = false := by simp <;> omega
  have e34 : ((c.toNat : Int) == 34) = false := by simp <;> omega
  have e35 : ((c.toNat : Int) == 35) = false := by simp <;> omega
  have p48 : (decide ((48 : Int) ≤ (c.toNat : Int))) = true := by simp <;> omega
  have p57 : (decide ((c.toNat : Int) ≤ 57)) = false := by simp <;> omega
  have hx : bits BinOp.or IntKind.u8 (c.toNat : Int) 32 = ((c.toNat + 32 : Nat) : Int) := by rw [bits_is (by omega), if_neg (by omega)]
  have p97 : (decide ((97 : Int) ≤ bits BinOp.or IntKind.u8 (c.toNat : Int) 32)) = false := by rw [hx]; simp <;> omega
  have p122 : (decide (bits BinOp.or IntKind.u8 (c.toNat : Int) 32 ≤ 122)) = true := by rw [hx]; simp <;> omega
  clear hx h1 h2 hv
  go_enter Try.func15, Try.ntmps15
  go_wp2_with fail
  refine (HI.out _).mono ?_
  rintro e w' ⟨rfl, rfl⟩
  go_wp2
  go_ret
  exact ⟨rfl, rfl⟩

set_option maxHeartbeats 1000000 in
set_option maxRecDepth 100000 in
theorem class_65 (c : UInt8) (w : World) (h1 : 65 ≤ c.toNat) (h2 : c.toNat ≤ 90) : Calls Try.prog 15 #[.int .u8 (c.toNat : Int)] w (RetI w (classN c)) := by
  have hv : classN c = 3 := by
    unfold classN letB
    simp only [marks_nat, decide_eq_true_eq]
    repeat' split
    all_goals omega
  rw [hv]
  have e32 : ((c.toNat : Int) == 32) = false := by simp <;> omega
  have e9 : ((c.toNat : Int) == 9) = false := by simp <;> omega
  have e10 : ((c.toNat : Int) == 10) = false := by simp <;> omega
  have e95 : ((c.toNat : Int) == 95) = false := by simp <;> omega
  have e45 : ((c.toNat : Int) == 45) = false := by simp <;> omega
  have e34 : ((c.toNat : Int) == 34) = false := by simp <;> omega
  have e35 : ((c.toNat : Int) == 35) = false := by simp <;> omega
  have p48 : (decide ((48 : Int) ≤ (c.toNat : Int))) = true := by simp <;> omega
  have p57 : (decide ((c.toNat : Int) ≤ 57)) = false := by simp <;> omega
  have hx : bits BinOp.or IntKind.u8 (c.toNat : Int) 32 = ((c.toNat + 32 : Nat) : Int) := by rw [bits_is (by omega), if_neg (by omega)]
  have p97 : (decide ((97 : Int) ≤ bits BinOp.or IntKind.u8 (c.toNat : Int) 32)) = true := by rw [hx]; simp <;> omega
  have p122 : (decide (bits BinOp.or IntKind.u8 (c.toNat : Int) 32 ≤ 122)) = true := by rw [hx]; simp <;> omega
  clear hx h1 h2 hv
  go_enter Try.func15, Try.ntmps15
  go_wp2
  go_ret
  exact ⟨rfl, rfl⟩

set_option maxHeartbeats 1000000 in
set_option maxRecDepth 100000 in
theorem class_91 (c : UInt8) (w : World) (h1 : 91 ≤ c.toNat) (h2 : c.toNat ≤ 94) : Calls Try.prog 15 #[.int .u8 (c.toNat : Int)] w (RetI w (classN c)) := by
  have hv : classN c = 0 := by
    unfold classN letB
    simp only [marks_nat, decide_eq_true_eq]
    repeat' split
    all_goals omega
  rw [hv]
  have HI := index_is (c := c) (n := -1) (idx_no (by rw [marks_nat]; omega))
  have e32 : ((c.toNat : Int) == 32) = false := by simp <;> omega
  have e9 : ((c.toNat : Int) == 9) = false := by simp <;> omega
  have e10 : ((c.toNat : Int) == 10) = false := by simp <;> omega
  have e95 : ((c.toNat : Int) == 95) = false := by simp <;> omega
  have e45 : ((c.toNat : Int) == 45) = false := by simp <;> omega
  have e34 : ((c.toNat : Int) == 34) = false := by simp <;> omega
  have e35 : ((c.toNat : Int) == 35) = false := by simp <;> omega
  have p48 : (decide ((48 : Int) ≤ (c.toNat : Int))) = true := by simp <;> omega
  have p57 : (decide ((c.toNat : Int) ≤ 57)) = false := by simp <;> omega
  have hx : bits BinOp.or IntKind.u8 (c.toNat : Int) 32 = ((c.toNat + 32 : Nat) : Int) := by rw [bits_is (by omega), if_neg (by omega)]
  have p97 : (decide ((97 : Int) ≤ bits BinOp.or IntKind.u8 (c.toNat : Int) 32)) = true := by rw [hx]; simp <;> omega
  have p122 : (decide (bits BinOp.or IntKind.u8 (c.toNat : Int) 32 ≤ 122)) = false := by rw [hx]; simp <;> omega
  clear hx h1 h2 hv
  go_enter Try.func15, Try.ntmps15
  go_wp2_with fail
  refine (HI.out _).mono ?_
  rintro e w' ⟨rfl, rfl⟩
  go_wp2
  go_ret
  exact ⟨rfl, rfl⟩

set_option maxHeartbeats 1000000 in
set_option maxRecDepth 100000 in
theorem class_95 (c : UInt8) (w : World) (h1 : 95 ≤ c.toNat) (h2 : c.toNat ≤ 95) : Calls Try.prog 15 #[.int .u8 (c.toNat : Int)] w (RetI w (classN c)) := by
  have hv : classN c = 4 := by
    unfold classN letB
    simp only [marks_nat, decide_eq_true_eq]
    repeat' split
    all_goals omega
  rw [hv]
  have e32 : ((c.toNat : Int) == 32) = false := by simp <;> omega
  have e9 : ((c.toNat : Int) == 9) = false := by simp <;> omega
  have e10 : ((c.toNat : Int) == 10) = false := by simp <;> omega
  have e95 : ((c.toNat : Int) == 95) = true := by simp <;> omega
  have e45 : ((c.toNat : Int) == 45) = false := by simp <;> omega
  have e34 : ((c.toNat : Int) == 34) = false := by simp <;> omega
  have e35 : ((c.toNat : Int) == 35) = false := by simp <;> omega
  have p48 : (decide ((48 : Int) ≤ (c.toNat : Int))) = true := by simp <;> omega
  have p57 : (decide ((c.toNat : Int) ≤ 57)) = false := by simp <;> omega
  have hx : bits BinOp.or IntKind.u8 (c.toNat : Int) 32 = ((c.toNat + 32 : Nat) : Int) := by rw [bits_is (by omega), if_neg (by omega)]
  have p97 : (decide ((97 : Int) ≤ bits BinOp.or IntKind.u8 (c.toNat : Int) 32)) = true := by rw [hx]; simp <;> omega
  have p122 : (decide (bits BinOp.or IntKind.u8 (c.toNat : Int) 32 ≤ 122)) = false := by rw [hx]; simp <;> omega
  clear hx h1 h2 hv
  go_enter Try.func15, Try.ntmps15
  go_wp2
  go_ret
  exact ⟨rfl, rfl⟩

set_option maxHeartbeats 1000000 in
set_option maxRecDepth 100000 in
theorem class_96 (c : UInt8) (w : World) (h1 : 96 ≤ c.toNat) (h2 : c.toNat ≤ 96) : Calls Try.prog 15 #[.int .u8 (c.toNat : Int)] w (RetI w (classN c)) := by
  have hv : classN c = 0 := by
    unfold classN letB
    simp only [marks_nat, decide_eq_true_eq]
    repeat' split
    all_goals omega
  rw [hv]
  have HI := index_is (c := c) (n := -1) (idx_no (by rw [marks_nat]; omega))
  have e32 : ((c.toNat : Int) == 32) = false := by simp <;> omega
  have e9 : ((c.toNat : Int) == 9) = false := by simp <;> omega
  have e10 : ((c.toNat : Int) == 10) = false := by simp <;> omega
  have e95 : ((c.toNat : Int) == 95) = false := by simp <;> omega
  have e45 : ((c.toNat : Int) == 45) = false := by simp <;> omega
  have e34 : ((c.toNat : Int) == 34) = false := by simp <;> omega
  have e35 : ((c.toNat : Int) == 35) = false := by simp <;> omega
  have p48 : (decide ((48 : Int) ≤ (c.toNat : Int))) = true := by simp <;> omega
  have p57 : (decide ((c.toNat : Int) ≤ 57)) = false := by simp <;> omega
  have hx : bits BinOp.or IntKind.u8 (c.toNat : Int) 32 = ((c.toNat : Nat) : Int) := by rw [bits_is (by omega), if_pos (by omega)]
  have p97 : (decide ((97 : Int) ≤ bits BinOp.or IntKind.u8 (c.toNat : Int) 32)) = false := by rw [hx]; simp <;> omega
  have p122 : (decide (bits BinOp.or IntKind.u8 (c.toNat : Int) 32 ≤ 122)) = true := by rw [hx]; simp <;> omega
  clear hx h1 h2 hv
  go_enter Try.func15, Try.ntmps15
  go_wp2_with fail
  refine (HI.out _).mono ?_
  rintro e w' ⟨rfl, rfl⟩
  go_wp2
  go_ret
  exact ⟨rfl, rfl⟩

set_option maxHeartbeats 1000000 in
set_option maxRecDepth 100000 in
theorem class_97 (c : UInt8) (w : World) (h1 : 97 ≤ c.toNat) (h2 : c.toNat ≤ 122) : Calls Try.prog 15 #[.int .u8 (c.toNat : Int)] w (RetI w (classN c)) := by
  have hv : classN c = 3 := by
    unfold classN letB
    simp only [marks_nat, decide_eq_true_eq]
    repeat' split
    all_goals omega
  rw [hv]
  have e32 : ((c.toNat : Int) == 32) = false := by simp <;> omega
  have e9 : ((c.toNat : Int) == 9) = false := by simp <;> omega
  have e10 : ((c.toNat : Int) == 10) = false := by simp <;> omega
  have e95 : ((c.toNat : Int) == 95) = false := by simp <;> omega
  have e45 : ((c.toNat : Int) == 45) = false := by simp <;> omega
  have e34 : ((c.toNat : Int) == 34) = false := by simp <;> omega
  have e35 : ((c.toNat : Int) == 35) = false := by simp <;> omega
  have p48 : (decide ((48 : Int) ≤ (c.toNat : Int))) = true := by simp <;> omega
  have p57 : (decide ((c.toNat : Int) ≤ 57)) = false := by simp <;> omega
  have hx : bits BinOp.or IntKind.u8 (c.toNat : Int) 32 = ((c.toNat : Nat) : Int) := by rw [bits_is (by omega), if_pos (by omega)]
  have p97 : (decide ((97 : Int) ≤ bits BinOp.or IntKind.u8 (c.toNat : Int) 32)) = true := by rw [hx]; simp <;> omega
  have p122 : (decide (bits BinOp.or IntKind.u8 (c.toNat : Int) 32 ≤ 122)) = true := by rw [hx]; simp <;> omega
  clear hx h1 h2 hv
  go_enter Try.func15, Try.ntmps15
  go_wp2
  go_ret
  exact ⟨rfl, rfl⟩

set_option maxHeartbeats 1000000 in
set_option maxRecDepth 100000 in
theorem class_123 (c : UInt8) (w : World) (h1 : 123 ≤ c.toNat) (h2 : c.toNat ≤ 123) : Calls Try.prog 15 #[.int .u8 (c.toNat : Int)] w (RetI w (classN c)) := by
  have hv : classN c = 5 := by
    unfold classN letB
    simp only [marks_nat, decide_eq_true_eq]
    repeat' split
    all_goals omega
  rw [hv]
  have HI := index_is (c := c) (n := 2) (by
    have : c = 123 := UInt8.toNat_inj.1 (by show c.toNat = 123; omega)
    rw [this]; rfl)
  have e32 : ((c.toNat : Int) == 32) = false := by simp <;> omega
  have e9 : ((c.toNat : Int) == 9) = false := by simp <;> omega
  have e10 : ((c.toNat : Int) == 10) = false := by simp <;> omega
  have e95 : ((c.toNat : Int) == 95) = false := by simp <;> omega
  have e45 : ((c.toNat : Int) == 45) = false := by simp <;> omega
  have e34 : ((c.toNat : Int) == 34) = false := by simp <;> omega
  have e35 : ((c.toNat : Int) == 35) = false := by simp <;> omega
  have p48 : (decide ((48 : Int) ≤ (c.toNat : Int))) = true := by simp <;> omega
  have p57 : (decide ((c.toNat : Int) ≤ 57)) = false := by simp <;> omega
  have hx : bits BinOp.or IntKind.u8 (c.toNat : Int) 32 = ((c.toNat : Nat) : Int) := by rw [bits_is (by omega), if_pos (by omega)]
  have p97 : (decide ((97 : Int) ≤ bits BinOp.or IntKind.u8 (c.toNat : Int) 32)) = true := by rw [hx]; simp <;> omega
  have p122 : (decide (bits BinOp.or IntKind.u8 (c.toNat : Int) 32 ≤ 122)) = false := by rw [hx]; simp <;> omega
  clear hx h1 h2 hv
  go_enter Try.func15, Try.ntmps15
  go_wp2_with fail
  refine (HI.out _).mono ?_
  rintro e w' ⟨rfl, rfl⟩
  go_wp2
  go_ret
  exact ⟨rfl, rfl⟩

set_option maxHeartbeats 1000000 in
set_option maxRecDepth 100000 in
theorem class_124 (c : UInt8) (w : World) (h1 : 124 ≤ c.toNat) (h2 : c.toNat ≤ 124) : Calls Try.prog 15 #[.int .u8 (c.toNat : Int)] w (RetI w (classN c)) := by
  have hv : classN c = 0 := by
    unfold classN letB
    simp only [marks_nat, decide_eq_true_eq]
    repeat' split
    all_goals omega
  rw [hv]
  have HI := index_is (c := c) (n := -1) (idx_no (by rw [marks_nat]; omega))
  have e32 : ((c.toNat : Int) == 32) = false := by simp <;> omega
  have e9 : ((c.toNat : Int) == 9) = false := by simp <;> omega
  have e10 : ((c.toNat : Int) == 10) = false := by simp <;> omega
  have e95 : ((c.toNat : Int) == 95) = false := by simp <;> omega
  have e45 : ((c.toNat : Int) == 45) = false := by simp <;> omega
  have e34 : ((c.toNat : Int) == 34) = false := by simp <;> omega
  have e35 : ((c.toNat : Int) == 35) = false := by simp <;> omega
  have p48 : (decide ((48 : Int) ≤ (c.toNat : Int))) = true := by simp <;> omega
  have p57 : (decide ((c.toNat : Int) ≤ 57)) = false := by simp <;> omega
  have hx : bits BinOp.or IntKind.u8 (c.toNat : Int) 32 = ((c.toNat : Nat) : Int) := by rw [bits_is (by omega), if_pos (by omega)]
  have p97 : (decide ((97 : Int) ≤ bits BinOp.or IntKind.u8 (c.toNat : Int) 32)) = true := by rw [hx]; simp <;> omega
  have p122 : (decide (bits BinOp.or IntKind.u8 (c.toNat : Int) 32 ≤ 122)) = false := by rw [hx]; simp <;> omega
  clear hx h1 h2 hv
  go_enter Try.func15, Try.ntmps15
  go_wp2_with fail
  refine (HI.out _).mono ?_
  rintro e w' ⟨rfl, rfl⟩
  go_wp2
  go_ret
  exact ⟨rfl, rfl⟩

set_option maxHeartbeats 1000000 in
set_option maxRecDepth 100000 in
theorem class_125 (c : UInt8) (w : World) (h1 : 125 ≤ c.toNat) (h2 : c.toNat ≤ 125) : Calls Try.prog 15 #[.int .u8 (c.toNat : Int)] w (RetI w (classN c)) := by
  have hv : classN c = 5 := by
    unfold classN letB
    simp only [marks_nat, decide_eq_true_eq]
    repeat' split
    all_goals omega
  rw [hv]
  have HI := index_is (c := c) (n := 3) (by
    have : c = 125 := UInt8.toNat_inj.1 (by show c.toNat = 125; omega)
    rw [this]; rfl)
  have e32 : ((c.toNat : Int) == 32) = false := by simp <;> omega
  have e9 : ((c.toNat : Int) == 9) = false := by simp <;> omega
  have e10 : ((c.toNat : Int) == 10) = false := by simp <;> omega
  have e95 : ((c.toNat : Int) == 95) = false := by simp <;> omega
  have e45 : ((c.toNat : Int) == 45) = false := by simp <;> omega
  have e34 : ((c.toNat : Int) == 34) = false := by simp <;> omega
  have e35 : ((c.toNat : Int) == 35) = false := by simp <;> omega
  have p48 : (decide ((48 : Int) ≤ (c.toNat : Int))) = true := by simp <;> omega
  have p57 : (decide ((c.toNat : Int) ≤ 57)) = false := by simp <;> omega
  have hx : bits BinOp.or IntKind.u8 (c.toNat : Int) 32 = ((c.toNat : Nat) : Int) := by rw [bits_is (by omega), if_pos (by omega)]
  have p97 : (decide ((97 : Int) ≤ bits BinOp.or IntKind.u8 (c.toNat : Int) 32)) = true := by rw [hx]; simp <;> omega
  have p122 : (decide (bits BinOp.or IntKind.u8 (c.toNat : Int) 32 ≤ 122)) = false := by rw [hx]; simp <;> omega
  clear hx h1 h2 hv
  go_enter Try.func15, Try.ntmps15
  go_wp2_with fail
  refine (HI.out _).mono ?_
  rintro e w' ⟨rfl, rfl⟩
  go_wp2
  go_ret
  exact ⟨rfl, rfl⟩

set_option maxHeartbeats 1000000 in
set_option maxRecDepth 100000 in
theorem class_126 (c : UInt8) (w : World) (h1 : 126 ≤ c.toNat) (h2 : c.toNat ≤ 127) : Calls Try.prog 15 #[.int .u8 (c.toNat : Int)] w (RetI w (classN c)) := by
  have hv : classN c = 0 := by
    unfold classN letB
    simp only [marks_nat, decide_eq_true_eq]
    repeat' split
    all_goals omega
  rw [hv]
  have HI := index_is (c := c) (n := -1) (idx_no (by rw [marks_nat]; omega))
  have e32 : ((c.toNat : Int) == 32) = false := by simp <;> omega
  have e9 : ((c.toNat : Int) == 9) = false := by simp <;> omega
  have e10 : ((c.toNat : Int) == 10) = false := by simp <;> omega
  have e95 : ((c.toNat : Int) == 95) = false := by simp <;> omega
  have e45 : ((c.toNat : Int) == 45) = false := by simp <;> omega
  have e34 : ((c.toNat : Int) == 34) = false := by simp <;> omega
  have e35 : ((c.toNat : Int) == 35) = false := by simp <;> omega
  have p48 : (decide ((48 : Int) ≤ (c.toNat : Int))) = true := by simp <;> omega
  have p57 : (decide ((c.toNat : Int) ≤ 57)) = false := by simp <;> omega
  have hx : bits BinOp.or IntKind.u8 (c.toNat : Int) 32 = ((c.toNat : Nat) : Int) := by rw [bits_is (by omega), if_pos (by omega)]
  have p97 : (decide ((97 : Int) ≤ bits BinOp.or IntKind.u8 (c.toNat : Int) 32)) = true := by rw [hx]; simp <;> omega
  have p122 : (decide (bits BinOp.or IntKind.u8 (c.toNat : Int) 32 ≤ 122)) = false := by rw [hx]; simp <;> omega
  clear hx h1 h2 hv
  go_enter Try.func15, Try.ntmps15
  go_wp2_with fail
  refine (HI.out _).mono ?_
  rintro e w' ⟨rfl, rfl⟩
  go_wp2
  go_ret
  exact ⟨rfl, rfl⟩

set_option maxHeartbeats 1000000 in
set_option maxRecDepth 100000 in
theorem class_128 (c : UInt8) (w : World) (h1 : 128 ≤ c.toNat) (h2 : c.toNat ≤ 159) : Calls Try.prog 15 #[.int .u8 (c.toNat : Int)] w (RetI w (classN c)) := by
  have hv : classN c = 0 := by
    unfold classN letB
    simp only [marks_nat, decide_eq_true_eq]
    repeat' split
    all_goals omega
  rw [hv]
  have HI := index_is (c := c) (n := -1) (idx_no (by rw [marks_nat]; omega))
  have e32 : ((c.toNat : Int) == 32) = false := by simp <;> omega
  have e9 : ((c.toNat : Int) == 9) = false := by simp <;> omega
  have e10 : ((c.toNat : Int) == 10) = false := by simp <;> omega
  have e95 : ((c.toNat : Int) == 95) = false := by simp <;> omega
  have e45 : ((c.toNat : Int) == 45) = false := by simp <;> omega
  have e34 : ((c.toNat : Int) == 34) = false := by simp <;> omega
  have e35 : ((c.toNat : Int) == 35) = false := by simp <;> omega
  have p48 : (decide ((48 : Int) ≤ (c.toNat : Int))) = true := by simp <;> omega
  have p57 : (decide ((c.toNat : Int) ≤ 57)) = false := by simp <;> omega
  have hx : bits BinOp.or IntKind.u8 (c.toNat : Int) 32 = ((c.toNat + 32 : Nat) : Int) := by rw [bits_is (by omega), if_neg (by omega)]
  have p97 : (decide ((97 : Int) ≤ bits BinOp.or IntKind.u8 (c.toNat : Int) 32)) = true := by rw [hx]; simp <;> omega
  have p122 : (decide (bits BinOp.or IntKind.u8 (c.toNat : Int) 32 ≤ 122)) = false := by rw [hx]; simp <;> omega
  clear hx h1 h2 hv
  go_enter Try.func15, Try.ntmps15
  go_wp2_with fail
  refine (HI.out _).mono ?_
  rintro e w' ⟨rfl, rfl⟩
  go_wp2
  go_ret
  exact ⟨rfl, rfl⟩

set_option maxHeartbeats 1000000 in
set_option maxRecDepth 100000 in
theorem class_160 (c : UInt8) (w : World) (h1 : 160 ≤ c.toNat) (h2 : c.toNat ≤ 191) : Calls Try.prog 15 #[.int .u8 (c.toNat : Int)] w (RetI w (classN c)) := by
  have hv : classN c = 0 := by
    unfold classN letB
    simp only [marks_nat, decide_eq_true_eq]
    repeat' split
    all_goals omega
  rw [hv]
  have HI := index_is (c := c) (n := -1) (idx_no (by rw [marks_nat]; omega))
  have e32 : ((c.toNat : Int) == 32) = false := by simp <;> omega
  have e9 : ((c.toNat : Int) == 9) = false := by simp <;> omega
  have e10 : ((c.toNat : Int) == 10) = false := by simp <;> omega
  have e95 : ((c.toNat : Int) == 95) = false := by simp <;> omega
  have e45 : ((c.toNat : Int) == 45) = false := by simp <;> omega
  have e34 : ((c.toNat : Int) == 34) = false := by simp <;> omega
  have e35 : ((c.toNat : Int) == 35) = false := by simp <;> omega
  have p48 : (decide ((48 : Int) ≤ (c.toNat : Int))) = true := by simp <;> omega
  have p57 : (decide ((c.toNat : Int) ≤ 57)) = false := by simp <;> omega
  have hx : bits BinOp.or IntKind.u8 (c.toNat : Int) 32 = ((c.toNat : Nat) : Int) := by rw [bits_is (by omega), if_pos (by omega)]
  have p97 : (decide ((97 : Int) ≤ bits BinOp.or IntKind.u8 (c.toNat : Int) 32)) = true := by rw [hx]; simp <;> omega
  have p122 : (decide (bits BinOp.or IntKind.u8 (c.toNat : Int) 32 ≤ 122)) = false := by rw [hx]; simp <;> omega
  clear hx h1 h2 hv
  go_enter Try.func15, Try.ntmps15
  go_wp2_with fail
  refine (HI.out _).mono ?_
  rintro e w' ⟨rfl, rfl⟩
  go_wp2
  go_ret
  exact ⟨rfl, rfl⟩

set_option maxHeartbeats 1000000 in
set_option maxRecDepth 100000 in
theorem class_192 (c : UInt8) (w : World) (h1 : 192 ≤ c.toNat) (h2 : c.toNat ≤ 223) : Calls Try.prog 15 #[.int .u8 (c.toNat : Int)] w (RetI w (classN c)) := by
  have hv : classN c = 0 := by
    unfold classN letB
    simp only [marks_nat, decide_eq_true_eq]
    repeat' split
    all_goals omega
  rw [hv]
  have HI := index_is (c := c) (n := -1) (idx_no (by rw [marks_nat]; omega))
  have e32 : ((c.toNat : Int) == 32) = false := by simp <;> omega
  have e9 : ((c.toNat : Int) == 9) = false := by simp <;> omega
  have e10 : ((c.toNat : Int) == 10) = false := by simp <;> omega
  have e95 : ((c.toNat : Int) == 95) = false := by simp <;> omega
  have e45 : ((c.toNat : Int) == 45) = false := by simp <;> omega
  have e34 : ((c.toNat : Int) == 34) = false := by simp <;> omega
  have e35 : ((c.toNat : Int) == 35) = false := by simp <;> omega
  have p48 : (decide ((48 : Int) ≤ (c.toNat : Int))) = true := by simp <;> omega
  have p57 : (decide ((c.toNat : Int) ≤ 57)) = false := by simp <;> omega
  have hx : bits BinOp.or IntKind.u8 (c.toNat : Int) 32 = ((c.toNat + 32 : Nat) : Int) := by rw [bits_is (by omega), if_neg (by omega)]
  have p97 : (decide ((97 : Int) ≤ bits BinOp.or IntKind.u8 (c.toNat : Int) 32)) = true := by rw [hx]; simp <;> omega
  have p122 : (decide (bits BinOp.or IntKind.u8 (c.toNat : Int) 32 ≤ 122)) = false := by rw [hx]; simp <;> omega
  clear hx h1 h2 hv
  go_enter Try.func15, Try.ntmps15
  go_wp2_with fail
  refine (HI.out _).mono ?_
  rintro e w' ⟨rfl, rfl⟩
  go_wp2
  go_ret
  exact ⟨rfl, rfl⟩

set_option maxHeartbeats 1000000 in
set_option maxRecDepth 100000 in
theorem class_224 (c : UInt8) (w : World) (h1 : 224 ≤ c.toNat) (h2 : c.toNat ≤ 255) : Calls Try.prog 15 #[.int .u8 (c.toNat : Int)] w (RetI w (classN c)) := by
  have hv : classN c = 0 := by
    unfold classN letB
    simp only [marks_nat, decide_eq_true_eq]
    repeat' split
    all_goals omega
  rw [hv]
  have HI := index_is (c := c) (n := -1) (idx_no (by rw [marks_nat]; omega))
  have e32 : ((c.toNat : Int) == 32) = false := by simp <;> omega
  have e9 : ((c.toNat : Int) == 9) = false := by simp <;> omega
  have e10 : ((c.toNat : Int) == 10) = false := by simp <;> omega
  have e95 : ((c.toNat : Int) == 95) = false := by simp <;> omega
  have e45 : ((c.toNat : Int) == 45) = false := by simp <;> omega
  have e34 : ((c.toNat : Int) == 34) = false := by simp <;> omega
  have e35 : ((c.toNat : Int) == 35) = false := by simp <;> omega
  have p48 : (decide ((48 : Int) ≤ (c.toNat : Int))) = true := by simp <;> omega
  have p57 : (decide ((c.toNat : Int) ≤ 57)) = false := by simp <;> omega
  have hx : bits BinOp.or IntKind.u8 (c.toNat : Int) 32 = ((c.toNat : Nat) : Int) := by rw [bits_is (by omega), if_pos (by omega)]
  have p97 : (decide ((97 : Int) ≤ bits BinOp.or IntKind.u8 (c.toNat : Int) 32)) = true := by rw [hx]; simp <;> omega
  have p122 : (decide (bits BinOp.or IntKind.u8 (c.toNat : Int) 32 ≤ 122)) = false := by rw [hx]; simp <;> omega
  clear hx h1 h2 hv
  go_enter Try.func15, Try.ntmps15
  go_wp2_with fail
  refine (HI.out _).mono ?_
  rintro e w' ⟨rfl, rfl⟩
  go_wp2
  go_ret
  exact ⟨rfl, rfl⟩

theorem class_any (c : UInt8) (w : World) : Calls Try.prog 15 #[.int .u8 (c.toNat : Int)] w (RetI w (classN c)) := by
  have hc := c.toNat_lt
  rcases Nat.lt_or_ge 8 c.toNat with h8 | h8
  case inr => exact class_0 c w (by omega) h8
  rcases Nat.lt_or_ge 9 c.toNat with h9 | h9
  case inr => exact class_9 c w (by omega) h9
  rcases Nat.lt_or_ge 10 c.toNat with h10 | h10
  case inr => exact class_10 c w (by omega) h10
  rcases Nat.lt_or_ge 31 c.toNat with h31 | h31
  case inr => exact class_11 c w (by omega) h31
  rcases Nat.lt_or_ge 32 c.toNat with h32 | h32
  case inr => exact class_32 c w (by omega) h32
  rcases Nat.lt_or_ge 33 c.toNat with h33 | h33
  case inr => exact class_33 c w (by omega) h33
  rcases Nat.lt_or_ge 34 c.toNat with h34 | h34
  case inr => exact class_34 c w (by omega) h34
  rcases Nat.lt_or_ge 35 c.toNat with h35 | h35
  case inr => exact class_35 c w (by omega) h35
  rcases Nat.lt_or_ge 39 c.toNat with h39 | h39
  case inr => exact class_36 c w (by omega) h39
  rcases Nat.lt_or_ge 40 c.toNat with h40 | h40
  case inr => exact class_40 c w (by omega) h40
  rcases Nat.lt_or_ge 41 c.toNat with h41 | h41
  case inr => exact class_41 c w (by omega) h41
  rcases Nat.lt_or_ge 42 c.toNat with h42 | h42
  case inr => exact class_42 c w (by omega) h42
  rcases Nat.lt_or_ge 43 c.toNat with h43 | h43
  case inr => exact class_43 c w (by omega) h43
  rcases Nat.lt_or_ge 44 c.toNat with h44 | h44
  case inr => exact class_44 c w (by omega) h44
  rcases Nat.lt_or_ge 45 c.toNat with h45 | h45
  case inr => exact class_45 c w (by omega) h45
  rcases Nat.lt_or_ge 47 c.toNat with h47 | h47
  case inr => exact class_46 c w (by omega) h47
  rcases Nat.lt_or_ge 57 c.toNat with h57 | h57
  case inr => exact class_48 c w (by omega) h57
  rcases Nat.lt_or_ge 58 c.toNat with h58 | h58
  case inr => exact class_58 c w (by omega) h58
  rcases Nat.lt_or_ge 59 c.toNat with h59 | h59
  case inr => exact class_59 c w (by omega) h59
  rcases Nat.lt_or_ge 63 c.toNat with h63 | h63
  case inr => exact class_60 c w (by omega) h63
  rcases Nat.lt_or_ge 64 c.toNat with h64 | h64
  case inr => exact class_64 c w (by omega) h64
  rcases Nat.lt_or_ge 90 c.toNat with h90 | h90
  case inr => exact class_65 c w (by omega) h90
  rcases Nat.lt_or_ge 94 c.toNat with h94 | h94
  case inr => exact class_91 c w (by omega) h94
  rcases Nat.lt_or_ge 95 c.toNat with h95 | h95
  case inr => exact class_95 c w (by omega) h95
  rcases Nat.lt_or_ge 96 c.toNat with h96 | h96
  case inr => exact class_96 c w (by omega) h96
  rcases Nat.lt_or_ge 122 c.toNat with h122 | h122
  case inr => exact class_97 c w (by omega) h122
  rcases Nat.lt_or_ge 123 c.toNat with h123 | h123
  case inr => exact class_123 c w (by omega) h123
  rcases Nat.lt_or_ge 124 c.toNat with h124 | h124
  case inr => exact class_124 c w (by omega) h124
  rcases Nat.lt_or_ge 125 c.toNat with h125 | h125
  case inr => exact class_125 c w (by omega) h125
  rcases Nat.lt_or_ge 127 c.toNat with h127 | h127
  case inr => exact class_126 c w (by omega) h127
  rcases Nat.lt_or_ge 159 c.toNat with h159 | h159
  case inr => exact class_128 c w (by omega) h159
  rcases Nat.lt_or_ge 191 c.toNat with h191 | h191
  case inr => exact class_160 c w (by omega) h191
  rcases Nat.lt_or_ge 223 c.toNat with h223 | h223
  case inr => exact class_192 c w (by omega) h223
  exact class_224 c w (by omega) (by omega)

set_option maxRecDepth 100000 in
theorem mark_40 (c : UInt8) (w : World) (h : c.toNat = 40) : Calls Try.prog 18 #[.int .u8 (c.toNat : Int)] w (RetB w (mkB c)) := by
  have hv : mkB c = true := by unfold mkB; simp only [marks_nat, Bool.or_eq_true, decide_eq_true_eq]; omega
  rw [hv, h]
  go_enter Try.func18, Try.ntmps18
  go_wp2
  go_ret
  exact ⟨rfl, rfl⟩

set_option maxRecDepth 100000 in
theorem mark_41 (c : UInt8) (w : World) (h : c.toNat = 41) : Calls Try.prog 18 #[.int .u8 (c.toNat : Int)] w (RetB w (mkB c)) := by
  have hv : mkB c = true := by unfold mkB; simp only [marks_nat, Bool.or_eq_true, decide_eq_true_eq]; omega
  rw [hv, h]
  go_enter Try.func18, Try.ntmps18
  go_wp2
  go_ret
  exact ⟨rfl, rfl⟩

set_option maxRecDepth 100000 in
theorem mark_123 (c : UInt8) (w : World) (h : c.toNat = 123) : Calls Try.prog 18 #[.int .u8 (c.toNat : Int)] w (RetB w (mkB c)) := by
  have hv : mkB c = true := by unfold mkB; simp only [marks_nat, Bool.or_eq_true, decide_eq_true_eq]; omega
  rw [hv, h]
  go_enter Try.func18, Try.ntmps18
  go_wp2
  go_ret
  exact ⟨rfl, rfl⟩

set_option maxRecDepth 100000 in
theorem mark_125 (c : UInt8) (w : World) (h : c.toNat = 125) : Calls Try.prog 18 #[.int .u8 (c.toNat : Int)] w (RetB w (mkB c)) := by
  have hv : mkB c = true := by unfold mkB; simp only [marks_nat, Bool.or_eq_true, decide_eq_true_eq]; omega
  rw [hv, h]
  go_enter Try.func18, Try.ntmps18
  go_wp2
  go_ret
  exact ⟨rfl, rfl⟩

set_option maxRecDepth 100000 in
theorem mark_44 (c : UInt8) (w : World) (h : c.toNat = 44) : Calls Try.prog 18 #[.int .u8 (c.toNat : Int)] w (RetB w (mkB c)) := by
  have hv : mkB c = true := by unfold mkB; simp only [marks_nat, Bool.or_eq_true, decide_eq_true_eq]; omega
  rw [hv, h]
  go_enter Try.func18, Try.ntmps18
  go_wp2
  go_ret
  exact ⟨rfl, rfl⟩

set_option maxRecDepth 100000 in
theorem mark_59 (c : UInt8) (w : World) (h : c.toNat = 59) : Calls Try.prog 18 #[.int .u8 (c.toNat : Int)] w (RetB w (mkB c)) := by
  have hv : mkB c = true := by unfold mkB; simp only [marks_nat, Bool.or_eq_true, decide_eq_true_eq]; omega
  rw [hv, h]
  go_enter Try.func18, Try.ntmps18
  go_wp2
  go_ret
  exact ⟨rfl, rfl⟩

set_option maxRecDepth 100000 in
theorem mark_64 (c : UInt8) (w : World) (h : c.toNat = 64) : Calls Try.prog 18 #[.int .u8 (c.toNat : Int)] w (RetB w (mkB c)) := by
  have hv : mkB c = true := by unfold mkB; simp only [marks_nat, Bool.or_eq_true, decide_eq_true_eq]; omega
  rw [hv, h]
  go_enter Try.func18, Try.ntmps18
  go_wp2
  go_ret
  exact ⟨rfl, rfl⟩

set_option maxRecDepth 100000 in
theorem mark_43 (c : UInt8) (w : World) (h : c.toNat = 43) : Calls Try.prog 18 #[.int .u8 (c.toNat : Int)] w (RetB w (mkB c)) := by
  have hv : mkB c = true := by unfold mkB; simp only [marks_nat, Bool.or_eq_true, decide_eq_true_eq]; omega
  rw [hv, h]
  go_enter Try.func18, Try.ntmps18
  go_wp2
  go_ret
  exact ⟨rfl, rfl⟩

set_option maxRecDepth 100000 in
theorem mark_45 (c : UInt8) (w : World) (h : c.toNat = 45) : Calls Try.prog 18 #[.int .u8 (c.toNat : Int)] w (RetB w (mkB c)) := by
  have hv : mkB c = true := by unfold mkB; simp only [marks_nat, Bool.or_eq_true, decide_eq_true_eq]; omega
  rw [hv, h]
  go_enter Try.func18, Try.ntmps18
  go_wp2
  go_ret
  exact ⟨rfl, rfl⟩

set_option maxRecDepth 100000 in
theorem mark_42 (c : UInt8) (w : World) (h : c.toNat = 42) : Calls Try.prog 18 #[.int .u8 (c.toNat : Int)] w (RetB w (mkB c)) := by
  have hv : mkB c = true := by unfold mkB; simp only [marks_nat, Bool.or_eq_true, decide_eq_true_eq]; omega
  rw [hv, h]
  go_enter Try.func18, Try.ntmps18
  go_wp2
  go_ret
  exact ⟨rfl, rfl⟩

set_option maxHeartbeats 1000000 in
set_option maxRecDepth 100000 in
theorem mark_no (c : UInt8) (w : World) (h : ¬ (c ∈ marksL ∨ c.toNat = 45)) : Calls Try.prog 18 #[.int .u8 (c.toNat : Int)] w (RetB w (mkB c)) := by
  have hv : mkB c = false := by unfold mkB; simp only [Bool.or_eq_false_iff, decide_eq_false_iff_not]; exact ⟨fun a => h (.inl a), fun a => h (.inr a)⟩
  rw [marks_nat] at h
  rw [hv]
  have e40 : ((c.toNat : Int) == 40) = false := by simp <;> omega
  have e41 : ((c.toNat : Int) == 41) = false := by simp <;> omega
  have e123 : ((c.toNat : Int) == 123) = false := by simp <;> omega
  have e125 : ((c.toNat : Int) == 125) = false := by simp <;> omega
  have e44 : ((c.toNat : Int) == 44) = false := by simp <;> omega
  have e59 : ((c.toNat : Int) == 59) = false := by simp <;> omega
  have e64 : ((c.toNat : Int) == 64) = false := by simp <;> omega
  have e43 : ((c.toNat : Int) == 43) = false := by simp <;> omega
  have e45 : ((c.toNat : Int) == 45) = false := by simp <;> omega
  have e42 : ((c.toNat : Int) == 42) = false := by simp <;> omega
  clear h hv
  go_enter Try.func18, Try.ntmps18
  go_wp2
  go_ret
  exact ⟨rfl, rfl⟩

theorem mark_any (c : UInt8) (w : World) : Calls Try.prog 18 #[.int .u8 (c.toNat : Int)] w (RetB w (mkB c)) := by
  by_cases h : c ∈ marksL ∨ c.toNat = 45
  · have h' := h
    rw [marks_nat] at h'
    rcases h' with (h | h | h | h | h | h | h | h | h) | h
    · exact mark_40 c w h
    · exact mark_41 c w h
    · exact mark_123 c w h
    · exact mark_125 c w h
    · exact mark_44 c w h
    · exact mark_59 c w h
    · exact mark_64 c w h
    · exact mark_43 c w h
    · exact mark_42 c w h
    · exact mark_45 c w h
  · exact mark_no c w h

end Go.Proofs.Ytnmiiimbjojcmaa
