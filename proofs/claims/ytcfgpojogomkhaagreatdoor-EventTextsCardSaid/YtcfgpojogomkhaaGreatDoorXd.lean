/-
  novationlaw17.EventEntered walked and joined. Condition: what the package-level variables hold.
-/
import Derived.Test.YtcfgpojogomkhaaGreatDoorXa
namespace Go.Proofs.YtcfgpojogomkhaaGreatDoor
open Go.RowKit

/-- Two boxes behind w. -/
structure Two (w W : World) (o1 o2 : Obj) : Prop where
  a : W.heap[w.heap.size]? = some o1
  b : W.heap[w.heap.size + 1]? = some o2
  h : Below w.heap.size w W
theorem Two.next {w W W' : World} {o1 o2 : Obj} (t : Two w W o1 o2) (hb : Below W.heap.size W W') : Two w W' o1 o2 :=
  ⟨(objNext (B := 0) ⟨Nat.zero_le _, t.a⟩ hb).2, (objNext (B := 0) ⟨Nat.zero_le _, t.b⟩ hb).2, t.h.trans (hb.mono t.h.size)⟩
theorem Two.start (w : World) (o1 o2 : Obj) : Two w ((w.alloc o1).alloc o2) o1 o2 := by
  refine ⟨?_, ?_, ((Below.refl _ _).alloc (Nat.le_refl _) _).alloc (by simp) _⟩
  · rw [Below.heap_alloc _ _ _ (by simp)]; exact objHere _ _
  · have := objHere (w.alloc o1) o2
    simpa using this
theorem Two.alloc {w W : World} {o1 o2 : Obj} (t : Two w W o1 o2) (o : Obj) : Two w (W.alloc o) o1 o2 := t.next ((Below.refl _ _).alloc (Nat.le_refl _) o)
theorem cmpEv_entry {x y : Ev} (h : x.entry < y.entry) : cmpEv x y = -1 := by unfold cmpEv cmpL firstNZ; rw [cmpI_lt h, if_neg (by decide)]
theorem cmpEv_entry' {x y : Ev} (h : y.entry < x.entry) : cmpEv x y = 1 := by unfold cmpEv cmpL firstNZ; rw [cmpI_gt h, if_neg (by decide)]
theorem cmpEv_id {x y : Ev} (h0 : x.entry = y.entry) (h : x.id < y.id) : cmpEv x y = -1 := by unfold cmpEv cmpL firstNZ; rw [h0, cmpI_eq, if_pos rfl]; unfold firstNZ; rw [cmpI_lt h, if_neg (by decide)]
theorem cmpEv_id' {x y : Ev} (h0 : x.entry = y.entry) (h : y.id < x.id) : cmpEv x y = 1 := by unfold cmpEv cmpL firstNZ; rw [h0, cmpI_eq, if_pos rfl]; unfold firstNZ; rw [cmpI_gt h, if_neg (by decide)]
set_option maxHeartbeats 8000000 in
set_option maxRecDepth 100000 in
theorem entered_l1 (k1 i1 e1 t1 d1 k2 i2 e2 t2 d2 : Int) (p1 n1 v1 p2 n2 v2 : ByteArray) (f1 f2 : Bool) (w : World) (HA : Hid (Ct w 14 #[] (.bool true)))
    (HL1 : Hid (∀ W, Calls Tryz.prog 9 #[.agg #[.int .u8 k1, .int .i64 i1, .int .i64 e1, .int .i64 t1, .int .i64 d1, .string p1, .string n1, .string v1, .bool f1]] W (BelB W true))) :
    Calls Tryz.prog 6 #[.agg #[.int .u8 k1, .int .i64 i1, .int .i64 e1, .int .i64 t1, .int .i64 d1, .string p1, .string n1, .string v1, .bool f1], .agg #[.int .u8 k2, .int .i64 i2, .int .i64 e2, .int .i64 t2, .int .i64 d2, .string p2, .string n2, .string v2, .bool f2]] w (BelB w true) := by
  go_enter Tryz.func6, Tryz.ntmps6
  go_wp2_with fail
  have T1 := Lib.hid (Two.start w (.cells #[.int .u8 k1, .int .i64 i1, .int .i64 e1, .int .i64 t1, .int .i64 d1, .string p1, .string n1, .string v1, .bool f1] 24) (.cells #[.int .u8 k2, .int .i64 i2, .int .i64 e2, .int .i64 t2, .int .i64 d2, .string p2, .string n2, .string v2, .bool f2] 24))
  refine (HA.out.use T1.out.h).mono ?_
  rintro e w2 ⟨rfl, b2⟩
  have T2 := Lib.hid (T1.out.next b2)
  clear b2
  obtain ⟨a0, a1, a2, a3, a4, a5, a6, a7, a8⟩ := zcells T2.out.a
  obtain ⟨b0, b1, b2, b3, b4, b5, b6, b7, b8⟩ := zcells T2.out.b
  go_wp2_with fail
  refine (HL1.out _).mono ?_
  rintro e w3 ⟨rfl, b3⟩
  have T3 := Lib.hid (T2.out.next b3)
  clear a0 a1 a2 a3 a4 a5 a6 a7 a8 b0 b1 b2 b3 b4 b5 b6 b7 b8
  clear b3
  obtain ⟨a0, a1, a2, a3, a4, a5, a6, a7, a8⟩ := zcells T3.out.a
  obtain ⟨b0, b1, b2, b3, b4, b5, b6, b7, b8⟩ := zcells T3.out.b
  go_wp2_with fail
  go_ret
  exact ⟨rfl, T3.out.h⟩

set_option maxHeartbeats 8000000 in
set_option maxRecDepth 100000 in
theorem entered_l2 (k1 i1 e1 t1 d1 k2 i2 e2 t2 d2 : Int) (p1 n1 v1 p2 n2 v2 : ByteArray) (f1 f2 : Bool) (w : World) (HA : Hid (Ct w 14 #[] (.bool true)))
    (HL1 : Hid (∀ W, Calls Tryz.prog 9 #[.agg #[.int .u8 k1, .int .i64 i1, .int .i64 e1, .int .i64 t1, .int .i64 d1, .string p1, .string n1, .string v1, .bool f1]] W (BelB W false)))
    (HL2 : Hid (∀ W, Calls Tryz.prog 9 #[.agg #[.int .u8 k2, .int .i64 i2, .int .i64 e2, .int .i64 t2, .int .i64 d2, .string p2, .string n2, .string v2, .bool f2]] W (BelB W true))) :
    Calls Tryz.prog 6 #[.agg #[.int .u8 k1, .int .i64 i1, .int .i64 e1, .int .i64 t1, .int .i64 d1, .string p1, .string n1, .string v1, .bool f1], .agg #[.int .u8 k2, .int .i64 i2, .int .i64 e2, .int .i64 t2, .int .i64 d2, .string p2, .string n2, .string v2, .bool f2]] w (BelB w true) := by
  go_enter Tryz.func6, Tryz.ntmps6
  go_wp2_with fail
  have T1 := Lib.hid (Two.start w (.cells #[.int .u8 k1, .int .i64 i1, .int .i64 e1, .int .i64 t1, .int .i64 d1, .string p1, .string n1, .string v1, .bool f1] 24) (.cells #[.int .u8 k2, .int .i64 i2, .int .i64 e2, .int .i64 t2, .int .i64 d2, .string p2, .string n2, .string v2, .bool f2] 24))
  refine (HA.out.use T1.out.h).mono ?_
  rintro e w2 ⟨rfl, b2⟩
  have T2 := Lib.hid (T1.out.next b2)
  clear b2
  obtain ⟨a0, a1, a2, a3, a4, a5, a6, a7, a8⟩ := zcells T2.out.a
  obtain ⟨b0, b1, b2, b3, b4, b5, b6, b7, b8⟩ := zcells T2.out.b
  go_wp2_with fail
  refine (HL1.out _).mono ?_
  rintro e w3 ⟨rfl, b3⟩
  have T3 := Lib.hid (T2.out.next b3)
  clear a0 a1 a2 a3 a4 a5 a6 a7 a8 b0 b1 b2 b3 b4 b5 b6 b7 b8
  clear b3
  obtain ⟨a0, a1, a2, a3, a4, a5, a6, a7, a8⟩ := zcells T3.out.a
  obtain ⟨b0, b1, b2, b3, b4, b5, b6, b7, b8⟩ := zcells T3.out.b
  go_wp2_with fail
  refine (HL2.out _).mono ?_
  rintro e w4 ⟨rfl, b4⟩
  have T4 := Lib.hid (T3.out.next b4)
  clear a0 a1 a2 a3 a4 a5 a6 a7 a8 b0 b1 b2 b3 b4 b5 b6 b7 b8
  clear b4
  obtain ⟨a0, a1, a2, a3, a4, a5, a6, a7, a8⟩ := zcells T4.out.a
  obtain ⟨b0, b1, b2, b3, b4, b5, b6, b7, b8⟩ := zcells T4.out.b
  go_wp2_with fail
  go_ret
  exact ⟨rfl, T4.out.h⟩

set_option maxHeartbeats 8000000 in
set_option maxRecDepth 100000 in
theorem entered_a (k1 i1 e1 t1 d1 k2 i2 e2 t2 d2 : Int) (p1 n1 v1 p2 n2 v2 : ByteArray) (f1 f2 : Bool) (w : World) (HA : Hid (Ct w 14 #[] (.bool true)))
    (HL1 : Hid (∀ W, Calls Tryz.prog 9 #[.agg #[.int .u8 k1, .int .i64 i1, .int .i64 e1, .int .i64 t1, .int .i64 d1, .string p1, .string n1, .string v1, .bool f1]] W (BelB W false)))
    (HL2 : Hid (∀ W, Calls Tryz.prog 9 #[.agg #[.int .u8 k2, .int .i64 i2, .int .i64 e2, .int .i64 t2, .int .i64 d2, .string p2, .string n2, .string v2, .bool f2]] W (BelB W false)))
    (H12 : Hid (∀ W, Calls Tryz.prog 15 #[.agg #[.int .u8 k1, .int .i64 i1, .int .i64 e1, .int .i64 t1, .int .i64 d1, .string p1, .string n1, .string v1, .bool f1], .agg #[.int .u8 k2, .int .i64 i2, .int .i64 e2, .int .i64 t2, .int .i64 d2, .string p2, .string n2, .string v2, .bool f2]] W fun e w' => e = .returned (.int .i64 (-1)) ∧ Below W.heap.size W w'))
    (g1 : (e1 != e2) = true) (g2 : decide (e1 < e2) = true) :
    Calls Tryz.prog 6 #[.agg #[.int .u8 k1, .int .i64 i1, .int .i64 e1, .int .i64 t1, .int .i64 d1, .string p1, .string n1, .string v1, .bool f1], .agg #[.int .u8 k2, .int .i64 i2, .int .i64 e2, .int .i64 t2, .int .i64 d2, .string p2, .string n2, .string v2, .bool f2]] w (BelB w true) := by
  go_enter Tryz.func6, Tryz.ntmps6
  go_wp2_with fail
  have T1 := Lib.hid (Two.start w (.cells #[.int .u8 k1, .int .i64 i1, .int .i64 e1, .int .i64 t1, .int .i64 d1, .string p1, .string n1, .string v1, .bool f1] 24) (.cells #[.int .u8 k2, .int .i64 i2, .int .i64 e2, .int .i64 t2, .int .i64 d2, .string p2, .string n2, .string v2, .bool f2] 24))
  refine (HA.out.use T1.out.h).mono ?_
  rintro e w2 ⟨rfl, b2⟩
  have T2 := Lib.hid (T1.out.next b2)
  clear b2
  obtain ⟨a0, a1, a2, a3, a4, a5, a6, a7, a8⟩ := zcells T2.out.a
  obtain ⟨b0, b1, b2, b3, b4, b5, b6, b7, b8⟩ := zcells T2.out.b
  go_wp2_with fail
  refine (HL1.out _).mono ?_
  rintro e w3 ⟨rfl, b3⟩
  have T3 := Lib.hid (T2.out.next b3)
  clear a0 a1 a2 a3 a4 a5 a6 a7 a8 b0 b1 b2 b3 b4 b5 b6 b7 b8
  clear b3
  obtain ⟨a0, a1, a2, a3, a4, a5, a6, a7, a8⟩ := zcells T3.out.a
  obtain ⟨b0, b1, b2, b3, b4, b5, b6, b7, b8⟩ := zcells T3.out.b
  go_wp2_with fail
  refine (HL2.out _).mono ?_
  rintro e w4 ⟨rfl, b4⟩
  have T4 := Lib.hid (T3.out.next b4)
  clear a0 a1 a2 a3 a4 a5 a6 a7 a8 b0 b1 b2 b3 b4 b5 b6 b7 b8
  clear b4
  obtain ⟨a0, a1, a2, a3, a4, a5, a6, a7, a8⟩ := zcells T4.out.a
  obtain ⟨b0, b1, b2, b3, b4, b5, b6, b7, b8⟩ := zcells T4.out.b
  go_wp2_with fail
  refine (H12.out _).mono ?_
  rintro e w5 ⟨rfl, b5⟩
  have T5 := Lib.hid (T4.out.next b5)
  clear a0 a1 a2 a3 a4 a5 a6 a7 a8 b0 b1 b2 b3 b4 b5 b6 b7 b8
  clear b5
  obtain ⟨a0, a1, a2, a3, a4, a5, a6, a7, a8⟩ := zcells T5.out.a
  obtain ⟨b0, b1, b2, b3, b4, b5, b6, b7, b8⟩ := zcells T5.out.b
  go_wp2_with fail
  go_ret
  exact ⟨rfl, T5.out.h⟩

set_option maxHeartbeats 8000000 in
set_option maxRecDepth 100000 in
theorem entered_b (k1 i1 e1 t1 d1 k2 i2 e2 t2 d2 : Int) (p1 n1 v1 p2 n2 v2 : ByteArray) (f1 f2 : Bool) (w : World) (HA : Hid (Ct w 14 #[] (.bool true)))
    (HL1 : Hid (∀ W, Calls Tryz.prog 9 #[.agg #[.int .u8 k1, .int .i64 i1, .int .i64 e1, .int .i64 t1, .int .i64 d1, .string p1, .string n1, .string v1, .bool f1]] W (BelB W false)))
    (HL2 : Hid (∀ W, Calls Tryz.prog 9 #[.agg #[.int .u8 k2, .int .i64 i2, .int .i64 e2, .int .i64 t2, .int .i64 d2, .string p2, .string n2, .string v2, .bool f2]] W (BelB W false)))
    (H12 : Hid (∀ W, Calls Tryz.prog 15 #[.agg #[.int .u8 k1, .int .i64 i1, .int .i64 e1, .int .i64 t1, .int .i64 d1, .string p1, .string n1, .string v1, .bool f1], .agg #[.int .u8 k2, .int .i64 i2, .int .i64 e2, .int .i64 t2, .int .i64 d2, .string p2, .string n2, .string v2, .bool f2]] W fun e w' => e = .returned (.int .i64 1) ∧ Below W.heap.size W w'))
    (g1 : (e1 != e2) = true) (g2 : decide (e1 < e2) = false) :
    Calls Tryz.prog 6 #[.agg #[.int .u8 k1, .int .i64 i1, .int .i64 e1, .int .i64 t1, .int .i64 d1, .string p1, .string n1, .string v1, .bool f1], .agg #[.int .u8 k2, .int .i64 i2, .int .i64 e2, .int .i64 t2, .int .i64 d2, .string p2, .string n2, .string v2, .bool f2]] w (BelB w true) := by
  go_enter Tryz.func6, Tryz.ntmps6
  go_wp2_with fail
  have T1 := Lib.hid (Two.start w (.cells #[.int .u8 k1, .int .i64 i1, .int .i64 e1, .int .i64 t1, .int .i64 d1, .string p1, .string n1, .string v1, .bool f1] 24) (.cells #[.int .u8 k2, .int .i64 i2, .int .i64 e2, .int .i64 t2, .int .i64 d2, .string p2, .string n2, .string v2, .bool f2] 24))
  refine (HA.out.use T1.out.h).mono ?_
  rintro e w2 ⟨rfl, b2⟩
  have T2 := Lib.hid (T1.out.next b2)
  clear b2
  obtain ⟨a0, a1, a2, a3, a4, a5, a6, a7, a8⟩ := zcells T2.out.a
  obtain ⟨b0, b1, b2, b3, b4, b5, b6, b7, b8⟩ := zcells T2.out.b
  go_wp2_with fail
  refine (HL1.out _).mono ?_
  rintro e w3 ⟨rfl, b3⟩
  have T3 := Lib.hid (T2.out.next b3)
  clear a0 a1 a2 a3 a4 a5 a6 a7 a8 b0 b1 b2 b3 b4 b5 b6 b7 b8
  clear b3
  obtain ⟨a0, a1, a2, a3, a4, a5, a6, a7, a8⟩ := zcells T3.out.a
  obtain ⟨b0, b1, b2, b3, b4, b5, b6, b7, b8⟩ := zcells T3.out.b
  go_wp2_with fail
  refine (HL2.out _).mono ?_
  rintro e w4 ⟨rfl, b4⟩
  have T4 := Lib.hid (T3.out.next b4)
  clear a0 a1 a2 a3 a4 a5 a6 a7 a8 b0 b1 b2 b3 b4 b5 b6 b7 b8
  clear b4
  obtain ⟨a0, a1, a2, a3, a4, a5, a6, a7, a8⟩ := zcells T4.out.a
  obtain ⟨b0, b1, b2, b3, b4, b5, b6, b7, b8⟩ := zcells T4.out.b
  go_wp2_with fail
  refine (H12.out _).mono ?_
  rintro e w5 ⟨rfl, b5⟩
  have T5 := Lib.hid (T4.out.next b5)
  clear a0 a1 a2 a3 a4 a5 a6 a7 a8 b0 b1 b2 b3 b4 b5 b6 b7 b8
  clear b5
  obtain ⟨a0, a1, a2, a3, a4, a5, a6, a7, a8⟩ := zcells T5.out.a
  obtain ⟨b0, b1, b2, b3, b4, b5, b6, b7, b8⟩ := zcells T5.out.b
  go_wp2_with fail
  go_ret
  exact ⟨rfl, T5.out.h⟩

set_option maxHeartbeats 8000000 in
set_option maxRecDepth 100000 in
theorem entered_c (k1 i1 e1 t1 d1 k2 i2 e2 t2 d2 : Int) (p1 n1 v1 p2 n2 v2 : ByteArray) (f1 f2 : Bool) (w : World) (HA : Hid (Ct w 14 #[] (.bool true)))
    (HL1 : Hid (∀ W, Calls Tryz.prog 9 #[.agg #[.int .u8 k1, .int .i64 i1, .int .i64 e1, .int .i64 t1, .int .i64 d1, .string p1, .string n1, .string v1, .bool f1]] W (BelB W false)))
    (HL2 : Hid (∀ W, Calls Tryz.prog 9 #[.agg #[.int .u8 k2, .int .i64 i2, .int .i64 e2, .int .i64 t2, .int .i64 d2, .string p2, .string n2, .string v2, .bool f2]] W (BelB W false)))
    (H12 : Hid (∀ W, Calls Tryz.prog 15 #[.agg #[.int .u8 k1, .int .i64 i1, .int .i64 e1, .int .i64 t1, .int .i64 d1, .string p1, .string n1, .string v1, .bool f1], .agg #[.int .u8 k2, .int .i64 i2, .int .i64 e2, .int .i64 t2, .int .i64 d2, .string p2, .string n2, .string v2, .bool f2]] W fun e w' => e = .returned (.int .i64 (-1)) ∧ Below W.heap.size W w'))
    (g1 : (e1 != e2) = false) (g2 : (i1 != i2) = true) (g3 : decide (i1 < i2) = true) :
    Calls Tryz.prog 6 #[.agg #[.int .u8 k1, .int .i64 i1, .int .i64 e1, .int .i64 t1, .int .i64 d1, .string p1, .string n1, .string v1, .bool f1], .agg #[.int .u8 k2, .int .i64 i2, .int .i64 e2, .int .i64 t2, .int .i64 d2, .string p2, .string n2, .string v2, .bool f2]] w (BelB w true) := by
  go_enter Tryz.func6, Tryz.ntmps6
  go_wp2_with fail
  have T1 := Lib.hid (Two.start w (.cells #[.int .u8 k1, .int .i64 i1, .int .i64 e1, .int .i64 t1, .int .i64 d1, .string p1, .string n1, .string v1, .bool f1] 24) (.cells #[.int .u8 k2, .int .i64 i2, .int .i64 e2, .int .i64 t2, .int .i64 d2, .string p2, .string n2, .string v2, .bool f2] 24))
  refine (HA.out.use T1.out.h).mono ?_
  rintro e w2 ⟨rfl, b2⟩
  have T2 := Lib.hid (T1.out.next b2)
  clear b2
  obtain ⟨a0, a1, a2, a3, a4, a5, a6, a7, a8⟩ := zcells T2.out.a
  obtain ⟨b0, b1, b2, b3, b4, b5, b6, b7, b8⟩ := zcells T2.out.b
  go_wp2_with fail
  refine (HL1.out _).mono ?_
  rintro e w3 ⟨rfl, b3⟩
  have T3 := Lib.hid (T2.out.next b3)
  clear a0 a1 a2 a3 a4 a5 a6 a7 a8 b0 b1 b2 b3 b4 b5 b6 b7 b8
  clear b3
  obtain ⟨a0, a1, a2, a3, a4, a5, a6, a7, a8⟩ := zcells T3.out.a
  obtain ⟨b0, b1, b2, b3, b4, b5, b6, b7, b8⟩ := zcells T3.out.b
  go_wp2_with fail
  refine (HL2.out _).mono ?_
  rintro e w4 ⟨rfl, b4⟩
  have T4 := Lib.hid (T3.out.next b4)
  clear a0 a1 a2 a3 a4 a5 a6 a7 a8 b0 b1 b2 b3 b4 b5 b6 b7 b8
  clear b4
  obtain ⟨a0, a1, a2, a3, a4, a5, a6, a7, a8⟩ := zcells T4.out.a
  obtain ⟨b0, b1, b2, b3, b4, b5, b6, b7, b8⟩ := zcells T4.out.b
  go_wp2_with fail
  refine (H12.out _).mono ?_
  rintro e w5 ⟨rfl, b5⟩
  have T5 := Lib.hid (T4.out.next b5)
  clear a0 a1 a2 a3 a4 a5 a6 a7 a8 b0 b1 b2 b3 b4 b5 b6 b7 b8
  clear b5
  obtain ⟨a0, a1, a2, a3, a4, a5, a6, a7, a8⟩ := zcells T5.out.a
  obtain ⟨b0, b1, b2, b3, b4, b5, b6, b7, b8⟩ := zcells T5.out.b
  go_wp2_with fail
  go_ret
  exact ⟨rfl, T5.out.h⟩

set_option maxHeartbeats 8000000 in
set_option maxRecDepth 100000 in
theorem entered_d (k1 i1 e1 t1 d1 k2 i2 e2 t2 d2 : Int) (p1 n1 v1 p2 n2 v2 : ByteArray) (f1 f2 : Bool) (w : World) (HA : Hid (Ct w 14 #[] (.bool true)))
    (HL1 : Hid (∀ W, Calls Tryz.prog 9 #[.agg #[.int .u8 k1, .int .i64 i1, .int .i64 e1, .int .i64 t1, .int .i64 d1, .string p1, .string n1, .string v1, .bool f1]] W (BelB W false)))
    (HL2 : Hid (∀ W, Calls Tryz.prog 9 #[.agg #[.int .u8 k2, .int .i64 i2, .int .i64 e2, .int .i64 t2, .int .i64 d2, .string p2, .string n2, .string v2, .bool f2]] W (BelB W false)))
    (H12 : Hid (∀ W, Calls Tryz.prog 15 #[.agg #[.int .u8 k1, .int .i64 i1, .int .i64 e1, .int .i64 t1, .int .i64 d1, .string p1, .string n1, .string v1, .bool f1], .agg #[.int .u8 k2, .int .i64 i2, .int .i64 e2, .int .i64 t2, .int .i64 d2, .string p2, .string n2, .string v2, .bool f2]] W fun e w' => e = .returned (.int .i64 1) ∧ Below W.heap.size W w'))
    (g1 : (e1 != e2) = false) (g2 : (i1 != i2) = true) (g3 : decide (i1 < i2) = false) :
    Calls Tryz.prog 6 #[.agg #[.int .u8 k1, .int .i64 i1, .int .i64 e1, .int .i64 t1, .int .i64 d1, .string p1, .string n1, .string v1, .bool f1], .agg #[.int .u8 k2, .int .i64 i2, .int .i64 e2, .int .i64 t2, .int .i64 d2, .string p2, .string n2, .string v2, .bool f2]] w (BelB w true) := by
  go_enter Tryz.func6, Tryz.ntmps6
  go_wp2_with fail
  have T1 := Lib.hid (Two.start w (.cells #[.int .u8 k1, .int .i64 i1, .int .i64 e1, .int .i64 t1, .int .i64 d1, .string p1, .string n1, .string v1, .bool f1] 24) (.cells #[.int .u8 k2, .int .i64 i2, .int .i64 e2, .int .i64 t2, .int .i64 d2, .string p2, .string n2, .string v2, .bool f2] 24))
  refine (HA.out.use T1.out.h).mono ?_
  rintro e w2 ⟨rfl, b2⟩
  have T2 := Lib.hid (T1.out.next b2)
  clear b2
  obtain ⟨a0, a1, a2, a3, a4, a5, a6, a7, a8⟩ := zcells T2.out.a
  obtain ⟨b0, b1, b2, b3, b4, b5, b6, b7, b8⟩ := zcells T2.out.b
  go_wp2_with fail
  refine (HL1.out _).mono ?_
  rintro e w3 ⟨rfl, b3⟩
  have T3 := Lib.hid (T2.out.next b3)
  clear a0 a1 a2 a3 a4 a5 a6 a7 a8 b0 b1 b2 b3 b4 b5 b6 b7 b8
  clear b3
  obtain ⟨a0, a1, a2, a3, a4, a5, a6, a7, a8⟩ := zcells T3.out.a
  obtain ⟨b0, b1, b2, b3, b4, b5, b6, b7, b8⟩ := zcells T3.out.b
  go_wp2_with fail
  refine (HL2.out _).mono ?_
  rintro e w4 ⟨rfl, b4⟩
  have T4 := Lib.hid (T3.out.next b4)
  clear a0 a1 a2 a3 a4 a5 a6 a7 a8 b0 b1 b2 b3 b4 b5 b6 b7 b8
  clear b4
  obtain ⟨a0, a1, a2, a3, a4, a5, a6, a7, a8⟩ := zcells T4.out.a
  obtain ⟨b0, b1, b2, b3, b4, b5, b6, b7, b8⟩ := zcells T4.out.b
  go_wp2_with fail
  refine (H12.out _).mono ?_
  rintro e w5 ⟨rfl, b5⟩
  have T5 := Lib.hid (T4.out.next b5)
  clear a0 a1 a2 a3 a4 a5 a6 a7 a8 b0 b1 b2 b3 b4 b5 b6 b7 b8
  clear b5
  obtain ⟨a0, a1, a2, a3, a4, a5, a6, a7, a8⟩ := zcells T5.out.a
  obtain ⟨b0, b1, b2, b3, b4, b5, b6, b7, b8⟩ := zcells T5.out.b
  go_wp2_with fail
  go_ret
  exact ⟨rfl, T5.out.h⟩

set_option maxHeartbeats 8000000 in
set_option maxRecDepth 100000 in
theorem entered_e (c : Int) (k1 i1 e1 t1 d1 k2 i2 e2 t2 d2 : Int) (p1 n1 v1 p2 n2 v2 : ByteArray) (f1 f2 : Bool) (w : World) (HA : Hid (Ct w 14 #[] (.bool true)))
    (HL1 : Hid (∀ W, Calls Tryz.prog 9 #[.agg #[.int .u8 k1, .int .i64 i1, .int .i64 e1, .int .i64 t1, .int .i64 d1, .string p1, .string n1, .string v1, .bool f1]] W (BelB W false)))
    (HL2 : Hid (∀ W, Calls Tryz.prog 9 #[.agg #[.int .u8 k2, .int .i64 i2, .int .i64 e2, .int .i64 t2, .int .i64 d2, .string p2, .string n2, .string v2, .bool f2]] W (BelB W false)))
    (H12 : Hid (∀ W, Calls Tryz.prog 15 #[.agg #[.int .u8 k1, .int .i64 i1, .int .i64 e1, .int .i64 t1, .int .i64 d1, .string p1, .string n1, .string v1, .bool f1], .agg #[.int .u8 k2, .int .i64 i2, .int .i64 e2, .int .i64 t2, .int .i64 d2, .string p2, .string n2, .string v2, .bool f2]] W fun e w' => e = .returned (.int .i64 c) ∧ Below W.heap.size W w'))
    (g1 : (e1 != e2) = false) (g2 : (i1 != i2) = false) :
    Calls Tryz.prog 6 #[.agg #[.int .u8 k1, .int .i64 i1, .int .i64 e1, .int .i64 t1, .int .i64 d1, .string p1, .string n1, .string v1, .bool f1], .agg #[.int .u8 k2, .int .i64 i2, .int .i64 e2, .int .i64 t2, .int .i64 d2, .string p2, .string n2, .string v2, .bool f2]] w (BelB w true) := by
  go_enter Tryz.func6, Tryz.ntmps6
  go_wp2_with fail
  have T1 := Lib.hid (Two.start w (.cells #[.int .u8 k1, .int .i64 i1, .int .i64 e1, .int .i64 t1, .int .i64 d1, .string p1, .string n1, .string v1, .bool f1] 24) (.cells #[.int .u8 k2, .int .i64 i2, .int .i64 e2, .int .i64 t2, .int .i64 d2, .string p2, .string n2, .string v2, .bool f2] 24))
  refine (HA.out.use T1.out.h).mono ?_
  rintro e w2 ⟨rfl, b2⟩
  have T2 := Lib.hid (T1.out.next b2)
  clear b2
  obtain ⟨a0, a1, a2, a3, a4, a5, a6, a7, a8⟩ := zcells T2.out.a
  obtain ⟨b0, b1, b2, b3, b4, b5, b6, b7, b8⟩ := zcells T2.out.b
  go_wp2_with fail
  refine (HL1.out _).mono ?_
  rintro e w3 ⟨rfl, b3⟩
  have T3 := Lib.hid (T2.out.next b3)
  clear a0 a1 a2 a3 a4 a5 a6 a7 a8 b0 b1 b2 b3 b4 b5 b6 b7 b8
  clear b3
  obtain ⟨a0, a1, a2, a3, a4, a5, a6, a7, a8⟩ := zcells T3.out.a
  obtain ⟨b0, b1, b2, b3, b4, b5, b6, b7, b8⟩ := zcells T3.out.b
  go_wp2_with fail
  refine (HL2.out _).mono ?_
  rintro e w4 ⟨rfl, b4⟩
  have T4 := Lib.hid (T3.out.next b4)
  clear a0 a1 a2 a3 a4 a5 a6 a7 a8 b0 b1 b2 b3 b4 b5 b6 b7 b8
  clear b4
  obtain ⟨a0, a1, a2, a3, a4, a5, a6, a7, a8⟩ := zcells T4.out.a
  obtain ⟨b0, b1, b2, b3, b4, b5, b6, b7, b8⟩ := zcells T4.out.b
  go_wp2_with fail
  refine (H12.out _).mono ?_
  rintro e w5 ⟨rfl, b5⟩
  have T5 := Lib.hid (T4.out.next b5)
  clear a0 a1 a2 a3 a4 a5 a6 a7 a8 b0 b1 b2 b3 b4 b5 b6 b7 b8
  clear b5
  obtain ⟨a0, a1, a2, a3, a4, a5, a6, a7, a8⟩ := zcells T5.out.a
  obtain ⟨b0, b1, b2, b3, b4, b5, b6, b7, b8⟩ := zcells T5.out.b
  go_wp2_with fail
  go_ret
  exact ⟨rfl, T5.out.h⟩

theorem entered_any (x y : Ev) (w : World) (h : Env w) : Calls Tryz.prog 6 #[evV x, evV y] w (BelB w true) := by
  have HA := Lib.hid (alive_ct h)
  cases hx : longB x with
  | true => exact entered_l1 _ _ _ _ _ _ _ _ _ _ _ _ _ _ _ _ _ _ w HA (long_hid x _ hx)
  | false =>
    cases hy : longB y with
    | true => exact entered_l2 _ _ _ _ _ _ _ _ _ _ _ _ _ _ _ _ _ _ w HA (long_hid x _ hx) (long_hid y _ hy)
    | false =>
      have h1 := long_hid x _ hx
      have h2 := long_hid y _ hy
      rcases Int.lt_trichotomy x.entry y.entry with g | g | g
      · exact entered_a _ _ _ _ _ _ _ _ _ _ _ _ _ _ _ _ _ _ w HA h1 h2 (cmp_hid x y _ (cmpEv_entry g)) (by simp; omega) (by simp; omega)
      · rcases Int.lt_trichotomy x.id y.id with k | k | k
        · exact entered_c _ _ _ _ _ _ _ _ _ _ _ _ _ _ _ _ _ _ w HA h1 h2 (cmp_hid x y _ (cmpEv_id g k)) (by simp; omega) (by simp; omega) (by simp; omega)
        · exact entered_e _ _ _ _ _ _ _ _ _ _ _ _ _ _ _ _ _ _ _ w HA h1 h2 (cmp_hid x y _ rfl) (by simp; omega) (by simp; omega)
        · exact entered_d _ _ _ _ _ _ _ _ _ _ _ _ _ _ _ _ _ _ w HA h1 h2 (cmp_hid x y _ (cmpEv_id' g k)) (by simp; omega) (by simp; omega) (by simp; omega)
      · exact entered_b _ _ _ _ _ _ _ _ _ _ _ _ _ _ _ _ _ _ w HA h1 h2 (cmp_hid x y _ (cmpEv_entry' g)) (by simp; omega) (by simp; omega)

end Go.Proofs.YtcfgpojogomkhaaGreatDoor
