/-
  The reference's Check of rationals. No condition.
-/
import Derived.Test.YtnmiiimbjojcmaaIh
namespace Go.Proofs.Ytnmiiimbjojcmaa
open Go.RowKit

/-- The parts of a rational are handed back. -/
def WrPost (w : World) (n d : ByteArray) (e : Ending) (w' : World) : Prop := e = .returned (.tuple #[.string n, .string d]) ∧ Below w.heap.size w w'
/-- A text and no error are handed back. -/
def GPost (w : World) (g : ByteArray) (e : Ending) (w' : World) : Prop := e = .returned (.tuple #[.string g, .int .i64 0]) ∧ Below w.heap.size w w'
/-- Digits, where it succeeds; where it fails. -/
def DigYes (w : World) (z : Int) (e : Ending) (w' : World) : Prop :=
  ∃ a n c, e = .returned (.tuple #[.slice a n c, .bool (decide (z < 0)), .bool true]) ∧ (decN z.natAbs).length = n ∧ Below w.heap.size w w'
def DigNo (w : World) (e : Ending) (w' : World) : Prop := e = .returned (.tuple #[.slice none 0 0, .bool false, .bool false]) ∧ Below w.heap.size w w'
theorem digits_yes (s : ByteArray) (z : Int) (w : World) (hs : s.size ≤ 1000000) (h : rdZ s.data.toList = some z) : Calls Try.prog 35 #[.string s] w (DigYes w z) :=
  (digits_any s w hs).mono fun e w' hp => by
    rcases hp with ⟨y, a, n, c, e1, e2, e3, _, _, e6⟩ | ⟨e1, _⟩
    · rw [h] at e1; injection e1 with e1; subst e1
      exact ⟨a, n, c, e2, e3, e6⟩
    · rw [h] at e1; cases e1
theorem digits_no (s : ByteArray) (w : World) (hs : s.size ≤ 1000000) (h : rdZ s.data.toList = none) : Calls Try.prog 35 #[.string s] w (DigNo w) :=
  (digits_any s w hs).mono fun e w' hp => by
    rcases hp with ⟨y, a, n, c, e1, _⟩ | ⟨_, e2, e3⟩
    · rw [h] at e1; cases e1
    · exact ⟨e2, e3⟩

set_option maxHeartbeats 1000000 in
set_option maxRecDepth 100000 in
theorem rc_nn (s n d : ByteArray) (HN : Hid (∀ W, Calls Try.prog 35 #[.string n] W (DigNo W))) (HD : Hid (∀ W, Calls Try.prog 35 #[.string d] W (DigNo W)))  (w : World)
    (HW : Hid (Calls Try.prog 34 #[.string s] w (WrPost w n d))) :
    Calls Try.prog 19 #[.string s] w (ErrPost w 12) := by
  go_enter Try.func19, Try.ntmps19
  go_wp2_with fail
  refine HW.out.mono ?_
  rintro e w1 ⟨rfl, b1⟩
  have B := Lib.hid b1
  clear b1
  go_wp2_with fail
  refine (HN.out _).mono ?_
  rintro e w2 ⟨rfl, b2⟩
  have B0 := Lib.hid (B.out.trans (b2.mono B.out.size))
  clear b2 B
  obtain ⟨B⟩ : Nonempty (Hid (Below w.heap.size w w2)) := ⟨B0⟩
  clear B0
  go_wp2_with fail
  refine (HD.out _).mono ?_
  rintro e w3 ⟨rfl, b3⟩
  have B1 := Lib.hid (B.out.trans (b3.mono B.out.size))
  clear b3 B
  obtain ⟨B⟩ : Nonempty (Hid (Below w.heap.size w w3)) := ⟨B1⟩
  clear B1
  go_wp2_with fail
  go_ret
  exact ⟨rfl, B.out⟩

set_option maxHeartbeats 1000000 in
set_option maxRecDepth 100000 in
theorem rc_ny (s n d : ByteArray) (y : Int) (HN : Hid (∀ W, Calls Try.prog 35 #[.string n] W (DigNo W))) (HD : Hid (∀ W, Calls Try.prog 35 #[.string d] W (DigYes W y))) (byy : Bool) (SY : Hid (decide (y < 0) = byy))  (w : World)
    (HW : Hid (Calls Try.prog 34 #[.string s] w (WrPost w n d))) :
    Calls Try.prog 19 #[.string s] w (ErrPost w 12) := by
  go_enter Try.func19, Try.ntmps19
  go_wp2_with fail
  refine HW.out.mono ?_
  rintro e w1 ⟨rfl, b1⟩
  have B := Lib.hid b1
  clear b1
  go_wp2_with fail
  refine (HN.out _).mono ?_
  rintro e w2 ⟨rfl, b2⟩
  have B0 := Lib.hid (B.out.trans (b2.mono B.out.size))
  clear b2 B
  obtain ⟨B⟩ : Nonempty (Hid (Below w.heap.size w w2)) := ⟨B0⟩
  clear B0
  go_wp2_with fail
  refine (HD.out _).mono ?_
  rintro e w3 ⟨a2, n2, c2, rfl, l3, b3⟩
  have B1 := Lib.hid (B.out.trans (b3.mono B.out.size))
  have L3 := Lib.hid l3
  clear b3 B l3
  obtain ⟨B⟩ : Nonempty (Hid (Below w.heap.size w w3)) := ⟨B1⟩
  clear B1
  rw [SY.out]
  go_wp2_with fail
  go_ret
  exact ⟨rfl, B.out⟩

set_option maxHeartbeats 1000000 in
set_option maxRecDepth 100000 in
theorem rc_yn (s n d : ByteArray) (x : Int) (HN : Hid (∀ W, Calls Try.prog 35 #[.string n] W (DigYes W x))) (HD : Hid (∀ W, Calls Try.prog 35 #[.string d] W (DigNo W))) (bx : Bool) (SX : Hid (decide (x < 0) = bx))  (w : World)
    (HW : Hid (Calls Try.prog 34 #[.string s] w (WrPost w n d))) :
    Calls Try.prog 19 #[.string s] w (ErrPost w 12) := by
  go_enter Try.func19, Try.ntmps19
  go_wp2_with fail
  refine HW.out.mono ?_
  rintro e w1 ⟨rfl, b1⟩
  have B := Lib.hid b1
  clear b1
  go_wp2_with fail
  refine (HN.out _).mono ?_
  rintro e w2 ⟨a1, n1, c1, rfl, l2, b2⟩
  have B0 := Lib.hid (B.out.trans (b2.mono B.out.size))
  have L2 := Lib.hid l2
  clear b2 B l2
  obtain ⟨B⟩ : Nonempty (Hid (Below w.heap.size w w2)) := ⟨B0⟩
  clear B0
  rw [SX.out]
  go_wp2_with fail
  refine (HD.out _).mono ?_
  rintro e w3 ⟨rfl, b3⟩
  have B1 := Lib.hid (B.out.trans (b3.mono B.out.size))
  clear b3 B
  obtain ⟨B⟩ : Nonempty (Hid (Below w.heap.size w w3)) := ⟨B1⟩
  clear B1
  go_wp2_with fail
  go_ret
  exact ⟨rfl, B.out⟩

set_option maxHeartbeats 1000000 in
set_option maxRecDepth 100000 in
theorem rc_neg (s n d : ByteArray) (x y : Int) (HN : Hid (∀ W, Calls Try.prog 35 #[.string n] W (DigYes W x))) (HD : Hid (∀ W, Calls Try.prog 35 #[.string d] W (DigYes W y))) (bx : Bool) (SX : Hid (decide (x < 0) = bx)) (SY : Hid (decide (y < 0) = true))  (w : World)
    (HW : Hid (Calls Try.prog 34 #[.string s] w (WrPost w n d))) :
    Calls Try.prog 19 #[.string s] w (ErrPost w 12) := by
  go_enter Try.func19, Try.ntmps19
  go_wp2_with fail
  refine HW.out.mono ?_
  rintro e w1 ⟨rfl, b1⟩
  have B := Lib.hid b1
  clear b1
  go_wp2_with fail
  refine (HN.out _).mono ?_
  rintro e w2 ⟨a1, n1, c1, rfl, l2, b2⟩
  have B0 := Lib.hid (B.out.trans (b2.mono B.out.size))
  have L2 := Lib.hid l2
  clear b2 B l2
  obtain ⟨B⟩ : Nonempty (Hid (Below w.heap.size w w2)) := ⟨B0⟩
  clear B0
  rw [SX.out]
  go_wp2_with fail
  refine (HD.out _).mono ?_
  rintro e w3 ⟨a2, n2, c2, rfl, l3, b3⟩
  have B1 := Lib.hid (B.out.trans (b3.mono B.out.size))
  have L3 := Lib.hid l3
  clear b3 B l3
  obtain ⟨B⟩ : Nonempty (Hid (Below w.heap.size w w3)) := ⟨B1⟩
  clear B1
  rw [SY.out]
  go_wp2_with fail
  go_ret
  exact ⟨rfl, B.out⟩

set_option maxHeartbeats 1000000 in
set_option maxRecDepth 100000 in
theorem rc_zero (s n d : ByteArray) (x y : Int) (HN : Hid (∀ W, Calls Try.prog 35 #[.string n] W (DigYes W x))) (HD : Hid (∀ W, Calls Try.prog 35 #[.string d] W (DigYes W y))) (bx : Bool) (SX : Hid (decide (x < 0) = bx)) (SY : Hid (decide (y < 0) = false)) (d0 : (d.toList == [48]) = true)  (w : World)
    (HW : Hid (Calls Try.prog 34 #[.string s] w (WrPost w n d))) :
    Calls Try.prog 19 #[.string s] w (ErrPost w 12) := by
  go_enter Try.func19, Try.ntmps19
  go_wp2_with fail
  refine HW.out.mono ?_
  rintro e w1 ⟨rfl, b1⟩
  have B := Lib.hid b1
  clear b1
  go_wp2_with fail
  refine (HN.out _).mono ?_
  rintro e w2 ⟨a1, n1, c1, rfl, l2, b2⟩
  have B0 := Lib.hid (B.out.trans (b2.mono B.out.size))
  have L2 := Lib.hid l2
  clear b2 B l2
  obtain ⟨B⟩ : Nonempty (Hid (Below w.heap.size w w2)) := ⟨B0⟩
  clear B0
  rw [SX.out]
  go_wp2_with fail
  refine (HD.out _).mono ?_
  rintro e w3 ⟨a2, n2, c2, rfl, l3, b3⟩
  have B1 := Lib.hid (B.out.trans (b3.mono B.out.size))
  have L3 := Lib.hid l3
  clear b3 B l3
  obtain ⟨B⟩ : Nonempty (Hid (Below w.heap.size w w3)) := ⟨B1⟩
  clear B1
  rw [SY.out]
  go_wp2_with fail
  go_ret
  exact ⟨rfl, B.out⟩

set_option maxHeartbeats 1000000 in
set_option maxRecDepth 100000 in
theorem rc_one (s n d : ByteArray) (x y : Int) (HN : Hid (∀ W, Calls Try.prog 35 #[.string n] W (DigYes W x))) (HD : Hid (∀ W, Calls Try.prog 35 #[.string d] W (DigYes W y))) (bx : Bool) (SX : Hid (decide (x < 0) = bx)) (SY : Hid (decide (y < 0) = false)) (d0 : (d.toList == [48]) = false) (d1 : (d.toList == [49]) = true) (i : Int) (HS : Hid (∀ W, Calls Try.prog 36 #[.string s] W fun e w' => e = .returned (.int .i64 i) ∧ W = w')) (hi : decide ((0 : Int) ≤ i) = true)  (w : World)
    (HW : Hid (Calls Try.prog 34 #[.string s] w (WrPost w n d))) :
    Calls Try.prog 19 #[.string s] w (ErrPost w 12) := by
  go_enter Try.func19, Try.ntmps19
  go_wp2_with fail
  refine HW.out.mono ?_
  rintro e w1 ⟨rfl, b1⟩
  have B := Lib.hid b1
  clear b1
  go_wp2_with fail
  refine (HN.out _).mono ?_
  rintro e w2 ⟨a1, n1, c1, rfl, l2, b2⟩
  have B0 := Lib.hid (B.out.trans (b2.mono B.out.size))
  have L2 := Lib.hid l2
  clear b2 B l2
  obtain ⟨B⟩ : Nonempty (Hid (Below w.heap.size w w2)) := ⟨B0⟩
  clear B0
  rw [SX.out]
  go_wp2_with fail
  refine (HD.out _).mono ?_
  rintro e w3 ⟨a2, n2, c2, rfl, l3, b3⟩
  have B1 := Lib.hid (B.out.trans (b3.mono B.out.size))
  have L3 := Lib.hid l3
  clear b3 B l3
  obtain ⟨B⟩ : Nonempty (Hid (Below w.heap.size w w3)) := ⟨B1⟩
  clear B1
  rw [SY.out]
  go_wp2_with fail
  refine (HS.out _).mono ?_
  rintro e w' ⟨rfl, rfl⟩
  go_wp2_with fail
  go_ret
  exact ⟨rfl, B.out⟩

set_option maxHeartbeats 1000000 in
set_option maxRecDepth 100000 in
theorem rc_big (s n d : ByteArray) (x y : Int) (HN : Hid (∀ W, Calls Try.prog 35 #[.string n] W (DigYes W x))) (HD : Hid (∀ W, Calls Try.prog 35 #[.string d] W (DigYes W y))) (bx : Bool) (SX : Hid (decide (x < 0) = bx)) (SY : Hid (decide (y < 0) = false)) (d0 : (d.toList == [48]) = false) (d1 : (d.toList == [49]) = false) (i : Int) (HS : Hid (∀ W, Calls Try.prog 36 #[.string s] W fun e w' => e = .returned (.int .i64 i) ∧ W = w')) (hi : decide ((0 : Int) ≤ i) = true) (HB : Hid (1000 < (decN x.natAbs).length ∨ 1000 < (decN y.natAbs).length))  (w : World)
    (HW : Hid (Calls Try.prog 34 #[.string s] w (WrPost w n d))) :
    Calls Try.prog 19 #[.string s] w (ErrPost w 14) := by
  go_enter Try.func19, Try.ntmps19
  go_wp2_with fail
  refine HW.out.mono ?_
  rintro e w1 ⟨rfl, b1⟩
  have B := Lib.hid b1
  clear b1
  go_wp2_with fail
  refine (HN.out _).mono ?_
  rintro e w2 ⟨a1, n1, c1, rfl, l2, b2⟩
  have B0 := Lib.hid (B.out.trans (b2.mono B.out.size))
  have L2 := Lib.hid l2
  clear b2 B l2
  obtain ⟨B⟩ : Nonempty (Hid (Below w.heap.size w w2)) := ⟨B0⟩
  clear B0
  rw [SX.out]
  go_wp2_with fail
  refine (HD.out _).mono ?_
  rintro e w3 ⟨a2, n2, c2, rfl, l3, b3⟩
  have B1 := Lib.hid (B.out.trans (b3.mono B.out.size))
  have L3 := Lib.hid l3
  clear b3 B l3
  obtain ⟨B⟩ : Nonempty (Hid (Below w.heap.size w w3)) := ⟨B1⟩
  clear B1
  rw [SY.out]
  go_wp2_with fail
  refine (HS.out _).mono ?_
  rintro e w' ⟨rfl, rfl⟩
  have l2 := L2.out
  have l3 := L3.out
  rcases HB.out with h | h
  · have hb : 1000 < n1 := by omega
    clear l2 l3 h
    go_wp2_with fail
    go_ret
    exact ⟨rfl, B.out⟩
  · by_cases hb : 1000 < n1
    · clear l2 l3 h
      go_wp2_with fail
      go_ret
      exact ⟨rfl, B.out⟩
    · have hb2 : 1000 < n2 := by omega
      clear l2 l3 h
      go_wp2_with fail
      go_ret
      exact ⟨rfl, B.out⟩

set_option maxHeartbeats 1000000 in
set_option maxRecDepth 100000 in
theorem rc_bigi (s n d : ByteArray) (x y : Int) (HN : Hid (∀ W, Calls Try.prog 35 #[.string n] W (DigYes W x))) (HD : Hid (∀ W, Calls Try.prog 35 #[.string d] W (DigYes W y))) (bx : Bool) (SX : Hid (decide (x < 0) = bx)) (SY : Hid (decide (y < 0) = false)) (d0 : (d.toList == [48]) = false) (i : Int) (HS : Hid (∀ W, Calls Try.prog 36 #[.string s] W fun e w' => e = .returned (.int .i64 i) ∧ W = w')) (hi : decide ((0 : Int) ≤ i) = false) (HB : Hid (1000 < (decN x.natAbs).length ∨ 1000 < (decN y.natAbs).length))  (w : World)
    (HW : Hid (Calls Try.prog 34 #[.string s] w (WrPost w n d))) :
    Calls Try.prog 19 #[.string s] w (ErrPost w 14) := by
  go_enter Try.func19, Try.ntmps19
  go_wp2_with fail
  refine HW.out.mono ?_
  rintro e w1 ⟨rfl, b1⟩
  have B := Lib.hid b1
  clear b1
  go_wp2_with fail
  refine (HN.out _).mono ?_
  rintro e w2 ⟨a1, n1, c1, rfl, l2, b2⟩
  have B0 := Lib.hid (B.out.trans (b2.mono B.out.size))
  have L2 := Lib.hid l2
  clear b2 B l2
  obtain ⟨B⟩ : Nonempty (Hid (Below w.heap.size w w2)) := ⟨B0⟩
  clear B0
  rw [SX.out]
  go_wp2_with fail
  refine (HD.out _).mono ?_
  rintro e w3 ⟨a2, n2, c2, rfl, l3, b3⟩
  have B1 := Lib.hid (B.out.trans (b3.mono B.out.size))
  have L3 := Lib.hid l3
  clear b3 B l3
  obtain ⟨B⟩ : Nonempty (Hid (Below w.heap.size w w3)) := ⟨B1⟩
  clear B1
  rw [SY.out]
  go_wp2_with fail
  refine (HS.out _).mono ?_
  rintro e w' ⟨rfl, rfl⟩
  have l2 := L2.out
  have l3 := L3.out
  rcases HB.out with h | h
  · have hb : 1000 < n1 := by omega
    clear l2 l3 h
    go_wp2_with fail
    go_ret
    exact ⟨rfl, B.out⟩
  · by_cases hb : 1000 < n1
    · clear l2 l3 h
      go_wp2_with fail
      go_ret
      exact ⟨rfl, B.out⟩
    · have hb2 : 1000 < n2 := by omega
      clear l2 l3 h
      go_wp2_with fail
      go_ret
      exact ⟨rfl, B.out⟩

set_option maxHeartbeats 1000000 in
set_option maxRecDepth 100000 in
theorem rc_gno (s n d : ByteArray) (x y : Int) (HN : Hid (∀ W, Calls Try.prog 35 #[.string n] W (DigYes W x))) (HD : Hid (∀ W, Calls Try.prog 35 #[.string d] W (DigYes W y))) (bx : Bool) (SX : Hid (decide (x < 0) = bx)) (SY : Hid (decide (y < 0) = false)) (d0 : (d.toList == [48]) = false) (d1 : (d.toList == [49]) = false) (i : Int) (HS : Hid (∀ W, Calls Try.prog 36 #[.string s] W fun e w' => e = .returned (.int .i64 i) ∧ W = w')) (hi : decide ((0 : Int) ≤ i) = true) (g : ByteArray) (HG : Hid (∀ W, Calls Try.prog 37 #[.string n, .string d] W (GPost W g))) (HSM : Hid ((decN x.natAbs).length ≤ 1000 ∧ (decN y.natAbs).length ≤ 1000)) (hg : (g.toList == [49]) = false)  (w : World)
    (HW : Hid (Calls Try.prog 34 #[.string s] w (WrPost w n d))) :
    Calls Try.prog 19 #[.string s] w (ErrPost w 12) := by
  go_enter Try.func19, Try.ntmps19
  go_wp2_with fail
  refine HW.out.mono ?_
  rintro e w1 ⟨rfl, b1⟩
  have B := Lib.hid b1
  clear b1
  go_wp2_with fail
  refine (HN.out _).mono ?_
  rintro e w2 ⟨a1, n1, c1, rfl, l2, b2⟩
  have B0 := Lib.hid (B.out.trans (b2.mono B.out.size))
  have L2 := Lib.hid l2
  clear b2 B l2
  obtain ⟨B⟩ : Nonempty (Hid (Below w.heap.size w w2)) := ⟨B0⟩
  clear B0
  rw [SX.out]
  go_wp2_with fail
  refine (HD.out _).mono ?_
  rintro e w3 ⟨a2, n2, c2, rfl, l3, b3⟩
  have B1 := Lib.hid (B.out.trans (b3.mono B.out.size))
  have L3 := Lib.hid l3
  clear b3 B l3
  obtain ⟨B⟩ : Nonempty (Hid (Below w.heap.size w w3)) := ⟨B1⟩
  clear B1
  rw [SY.out]
  go_wp2_with fail
  refine (HS.out _).mono ?_
  rintro e w' ⟨rfl, rfl⟩
  have l2 := L2.out
  have l3 := L3.out
  have hs1 := HSM.out
  have k2 : n1 ≤ 1000 := by omega
  have k3 : n2 ≤ 1000 := by omega
  clear l2 l3 hs1
  go_wp2_with fail
  refine (HG.out _).mono ?_
  rintro e w4 ⟨rfl, b4⟩
  have B4 := Lib.hid (B.out.trans (b4.mono B.out.size))
  clear b4
  go_wp2_with fail
  refine (HS.out _).mono ?_
  rintro e w' ⟨rfl, rfl⟩
  go_wp2_with fail
  go_ret
  exact ⟨rfl, B4.out⟩

set_option maxHeartbeats 1000000 in
set_option maxRecDepth 100000 in
theorem rc_gyes (s n d : ByteArray) (x y : Int) (HN : Hid (∀ W, Calls Try.prog 35 #[.string n] W (DigYes W x))) (HD : Hid (∀ W, Calls Try.prog 35 #[.string d] W (DigYes W y))) (bx : Bool) (SX : Hid (decide (x < 0) = bx)) (SY : Hid (decide (y < 0) = false)) (d0 : (d.toList == [48]) = false) (d1 : (d.toList == [49]) = false) (i : Int) (HS : Hid (∀ W, Calls Try.prog 36 #[.string s] W fun e w' => e = .returned (.int .i64 i) ∧ W = w')) (hi : decide ((0 : Int) ≤ i) = true) (g : ByteArray) (HG : Hid (∀ W, Calls Try.prog 37 #[.string n, .string d] W (GPost W g))) (HSM : Hid ((decN x.natAbs).length ≤ 1000 ∧ (decN y.natAbs).length ≤ 1000)) (hg : (g.toList == [49]) = true)  (w : World)
    (HW : Hid (Calls Try.prog 34 #[.string s] w (WrPost w n d))) :
    Calls Try.prog 19 #[.string s] w (ErrPost w 0) := by
  go_enter Try.func19, Try.ntmps19
  go_wp2_with fail
  refine HW.out.mono ?_
  rintro e w1 ⟨rfl, b1⟩
  have B := Lib.hid b1
  clear b1
  go_wp2_with fail
  refine (HN.out _).mono ?_
  rintro e w2 ⟨a1, n1, c1, rfl, l2, b2⟩
  have B0 := Lib.hid (B.out.trans (b2.mono B.out.size))
  have L2 := Lib.hid l2
  clear b2 B l2
  obtain ⟨B⟩ : Nonempty (Hid (Below w.heap.size w w2)) := ⟨B0⟩
  clear B0
  rw [SX.out]
  go_wp2_with fail
  refine (HD.out _).mono ?_
  rintro e w3 ⟨a2, n2, c2, rfl, l3, b3⟩
  have B1 := Lib.hid (B.out.trans (b3.mono B.out.size))
  have L3 := Lib.hid l3
  clear b3 B l3
  obtain ⟨B⟩ : Nonempty (Hid (Below w.heap.size w w3)) := ⟨B1⟩
  clear B1
  rw [SY.out]
  go_wp2_with fail
  refine (HS.out _).mono ?_
  rintro e w' ⟨rfl, rfl⟩
  have l2 := L2.out
  have l3 := L3.out
  have hs1 := HSM.out
  have k2 : n1 ≤ 1000 := by omega
  have k3 : n2 ≤ 1000 := by omega
  clear l2 l3 hs1
  go_wp2_with fail
  refine (HG.out _).mono ?_
  rintro e w4 ⟨rfl, b4⟩
  have B4 := Lib.hid (B.out.trans (b4.mono B.out.size))
  clear b4
  go_wp2_with fail
  refine (HS.out _).mono ?_
  rintro e w' ⟨rfl, rfl⟩
  go_wp2_with fail
  go_ret
  exact ⟨rfl, B4.out⟩

set_option maxHeartbeats 1000000 in
set_option maxRecDepth 100000 in
theorem rc_gi (s n d : ByteArray) (x y : Int) (HN : Hid (∀ W, Calls Try.prog 35 #[.string n] W (DigYes W x))) (HD : Hid (∀ W, Calls Try.prog 35 #[.string d] W (DigYes W y))) (bx : Bool) (SX : Hid (decide (x < 0) = bx)) (SY : Hid (decide (y < 0) = false)) (d0 : (d.toList == [48]) = false) (i : Int) (HS : Hid (∀ W, Calls Try.prog 36 #[.string s] W fun e w' => e = .returned (.int .i64 i) ∧ W = w')) (hi : decide ((0 : Int) ≤ i) = false) (g : ByteArray) (HG : Hid (∀ W, Calls Try.prog 37 #[.string n, .string d] W (GPost W g))) (HSM : Hid ((decN x.natAbs).length ≤ 1000 ∧ (decN y.natAbs).length ≤ 1000))  (w : World)
    (HW : Hid (Calls Try.prog 34 #[.string s] w (WrPost w n d))) :
    Calls Try.prog 19 #[.string s] w (ErrPost w 0) := by
  go_enter Try.func19, Try.ntmps19
  go_wp2_with fail
  refine HW.out.mono ?_
  rintro e w1 ⟨rfl, b1⟩
  have B := Lib.hid b1
  clear b1
  go_wp2_with fail
  refine (HN.out _).mono ?_
  rintro e w2 ⟨a1, n1, c1, rfl, l2, b2⟩
  have B0 := Lib.hid (B.out.trans (b2.mono B.out.size))
  have L2 := Lib.hid l2
  clear b2 B l2
  obtain ⟨B⟩ : Nonempty (Hid (Below w.heap.size w w2)) := ⟨B0⟩
  clear B0
  rw [SX.out]
  go_wp2_with fail
  refine (HD.out _).mono ?_
  rintro e w3 ⟨a2, n2, c2, rfl, l3, b3⟩
  have B1 := Lib.hid (B.out.trans (b3.mono B.out.size))
  have L3 := Lib.hid l3
  clear b3 B l3
  obtain ⟨B⟩ : Nonempty (Hid (Below w.heap.size w w3)) := ⟨B1⟩
  clear B1
  rw [SY.out]
  go_wp2_with fail
  refine (HS.out _).mono ?_
  rintro e w' ⟨rfl, rfl⟩
  have l2 := L2.out
  have l3 := L3.out
  have hs1 := HSM.out
  have k2 : n1 ≤ 1000 := by omega
  have k3 : n2 ≤ 1000 := by omega
  clear l2 l3 hs1
  go_wp2_with fail
  refine (HG.out _).mono ?_
  rintro e w4 ⟨rfl, b4⟩
  have B4 := Lib.hid (B.out.trans (b4.mono B.out.size))
  clear b4
  go_wp2_with fail
  refine (HS.out _).mono ?_
  rintro e w' ⟨rfl, rfl⟩
  go_wp2_with fail
  go_ret
  exact ⟨rfl, B4.out⟩

end Go.Proofs.Ytnmiiimbjojcmaa
