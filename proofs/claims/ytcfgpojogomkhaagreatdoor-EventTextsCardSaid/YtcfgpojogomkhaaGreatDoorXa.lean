/-
  novationlaw17.EventTotal walked. Condition: the callees' contracts, as hypotheses. novationlaw17.EventTotal returns true at every three events. Condition: what the package-level variables hold.
-/
import Derived.Test.YtcfgpojogomkhaaGreatDoorWg
import Derived.Test.YtcfgpojogomkhaaGreatDoorVr
namespace Go.Proofs.YtcfgpojogomkhaaGreatDoor
open Go.RowKit

/-- Three boxes behind w. -/
structure Three (w W : World) (o1 o2 o3 : Obj) : Prop where
  a : W.heap[w.heap.size]? = some o1
  b : W.heap[w.heap.size + 1]? = some o2
  c : W.heap[w.heap.size + 2]? = some o3
  h : Below w.heap.size w W
theorem Three.next {w W W' : World} {o1 o2 o3 : Obj} (t : Three w W o1 o2 o3) (hb : Below W.heap.size W W') : Three w W' o1 o2 o3 :=
  ⟨(objNext (B := 0) ⟨Nat.zero_le _, t.a⟩ hb).2, (objNext (B := 0) ⟨Nat.zero_le _, t.b⟩ hb).2, (objNext (B := 0) ⟨Nat.zero_le _, t.c⟩ hb).2, t.h.trans (hb.mono t.h.size)⟩
theorem Three.start (w : World) (o1 o2 o3 : Obj) : Three w (((w.alloc o1).alloc o2).alloc o3) o1 o2 o3 := by
  refine ⟨?_, ?_, ?_, (((Below.refl _ _).alloc (Nat.le_refl _) _).alloc (by simp) _).alloc (by simp; omega) _⟩
  · rw [Below.heap_alloc _ _ _ (by simp; omega), Below.heap_alloc _ _ _ (by simp)]; exact objHere _ _
  · have := objHere (w.alloc o1) o2
    rw [Below.heap_alloc _ _ _ (by simp)]
    simpa using this
  · have := objHere ((w.alloc o1).alloc o2) o3
    simpa using this
theorem Three.bel {w W : World} {o1 o2 o3 : Obj} (t : Three w W o1 o2 o3) (p : BelOf W) : Three w p.u o1 o2 o3 := t.next p.h

set_option maxHeartbeats 8000000 in
set_option maxRecDepth 100000 in
theorem total_l1 (k1 i1 e1 t1 d1 k2 i2 e2 t2 d2 k3 i3 e3 t3 d3 : Int) (p1 n1 v1 p2 n2 v2 p3 n3 v3 : ByteArray) (f1 f2 f3 : Bool) (w : World) (HA : Hid (Ct w 14 #[] (.bool true)))
    (HL1 : Hid (∀ W, Calls Tryz.prog 9 #[.agg #[.int .u8 k1, .int .i64 i1, .int .i64 e1, .int .i64 t1, .int .i64 d1, .string p1, .string n1, .string v1, .bool f1]] W (BelB W true))) :
    Calls Tryz.prog 4 #[.agg #[.int .u8 k1, .int .i64 i1, .int .i64 e1, .int .i64 t1, .int .i64 d1, .string p1, .string n1, .string v1, .bool f1], .agg #[.int .u8 k2, .int .i64 i2, .int .i64 e2, .int .i64 t2, .int .i64 d2, .string p2, .string n2, .string v2, .bool f2], .agg #[.int .u8 k3, .int .i64 i3, .int .i64 e3, .int .i64 t3, .int .i64 d3, .string p3, .string n3, .string v3, .bool f3]] w (BelB w true) := by
  go_enter Tryz.func4, Tryz.ntmps4
  go_wp2_with fail
  have T1 := Lib.hid (Three.start w (.cells #[.int .u8 k1, .int .i64 i1, .int .i64 e1, .int .i64 t1, .int .i64 d1, .string p1, .string n1, .string v1, .bool f1] 24) (.cells #[.int .u8 k2, .int .i64 i2, .int .i64 e2, .int .i64 t2, .int .i64 d2, .string p2, .string n2, .string v2, .bool f2] 24) (.cells #[.int .u8 k3, .int .i64 i3, .int .i64 e3, .int .i64 t3, .int .i64 d3, .string p3, .string n3, .string v3, .bool f3] 24))
  refine (HA.out.use T1.out.h).mono ?_
  rintro e w2 ⟨rfl, b2⟩
  have T2 := Lib.hid (T1.out.next b2)
  clear b2
  obtain ⟨a0, a1, a2, a3, a4, a5, a6, a7, a8⟩ := zcells T2.out.a
  obtain ⟨b0, b1, b2, b3, b4, b5, b6, b7, b8⟩ := zcells T2.out.b
  obtain ⟨c0, c1, c2, c3, c4, c5, c6, c7, c8⟩ := zcells T2.out.c
  go_wp2_with fail
  refine (HL1.out _).mono ?_
  rintro e w3 ⟨rfl, b3⟩
  have T3 := Lib.hid (T2.out.next b3)
  clear a0 a1 a2 a3 a4 a5 a6 a7 a8 b0 b1 b2 b3 b4 b5 b6 b7 b8 c0 c1 c2 c3 c4 c5 c6 c7 c8
  clear b3
  obtain ⟨a0, a1, a2, a3, a4, a5, a6, a7, a8⟩ := zcells T3.out.a
  obtain ⟨b0, b1, b2, b3, b4, b5, b6, b7, b8⟩ := zcells T3.out.b
  obtain ⟨c0, c1, c2, c3, c4, c5, c6, c7, c8⟩ := zcells T3.out.c
  go_wp2_with fail
  go_ret
  exact ⟨rfl, T3.out.h⟩

set_option maxHeartbeats 8000000 in
set_option maxRecDepth 100000 in
theorem total_l2 (k1 i1 e1 t1 d1 k2 i2 e2 t2 d2 k3 i3 e3 t3 d3 : Int) (p1 n1 v1 p2 n2 v2 p3 n3 v3 : ByteArray) (f1 f2 f3 : Bool) (w : World) (HA : Hid (Ct w 14 #[] (.bool true)))
    (HL1 : Hid (∀ W, Calls Tryz.prog 9 #[.agg #[.int .u8 k1, .int .i64 i1, .int .i64 e1, .int .i64 t1, .int .i64 d1, .string p1, .string n1, .string v1, .bool f1]] W (BelB W false)))
    (HL2 : Hid (∀ W, Calls Tryz.prog 9 #[.agg #[.int .u8 k2, .int .i64 i2, .int .i64 e2, .int .i64 t2, .int .i64 d2, .string p2, .string n2, .string v2, .bool f2]] W (BelB W true))) :
    Calls Tryz.prog 4 #[.agg #[.int .u8 k1, .int .i64 i1, .int .i64 e1, .int .i64 t1, .int .i64 d1, .string p1, .string n1, .string v1, .bool f1], .agg #[.int .u8 k2, .int .i64 i2, .int .i64 e2, .int .i64 t2, .int .i64 d2, .string p2, .string n2, .string v2, .bool f2], .agg #[.int .u8 k3, .int .i64 i3, .int .i64 e3, .int .i64 t3, .int .i64 d3, .string p3, .string n3, .string v3, .bool f3]] w (BelB w true) := by
  go_enter Tryz.func4, Tryz.ntmps4
  go_wp2_with fail
  have T1 := Lib.hid (Three.start w (.cells #[.int .u8 k1, .int .i64 i1, .int .i64 e1, .int .i64 t1, .int .i64 d1, .string p1, .string n1, .string v1, .bool f1] 24) (.cells #[.int .u8 k2, .int .i64 i2, .int .i64 e2, .int .i64 t2, .int .i64 d2, .string p2, .string n2, .string v2, .bool f2] 24) (.cells #[.int .u8 k3, .int .i64 i3, .int .i64 e3, .int .i64 t3, .int .i64 d3, .string p3, .string n3, .string v3, .bool f3] 24))
  refine (HA.out.use T1.out.h).mono ?_
  rintro e w2 ⟨rfl, b2⟩
  have T2 := Lib.hid (T1.out.next b2)
  clear b2
  obtain ⟨a0, a1, a2, a3, a4, a5, a6, a7, a8⟩ := zcells T2.out.a
  obtain ⟨b0, b1, b2, b3, b4, b5, b6, b7, b8⟩ := zcells T2.out.b
  obtain ⟨c0, c1, c2, c3, c4, c5, c6, c7, c8⟩ := zcells T2.out.c
  go_wp2_with fail
  refine (HL1.out _).mono ?_
  rintro e w3 ⟨rfl, b3⟩
  have T3 := Lib.hid (T2.out.next b3)
  clear a0 a1 a2 a3 a4 a5 a6 a7 a8 b0 b1 b2 b3 b4 b5 b6 b7 b8 c0 c1 c2 c3 c4 c5 c6 c7 c8
  clear b3
  obtain ⟨a0, a1, a2, a3, a4, a5, a6, a7, a8⟩ := zcells T3.out.a
  obtain ⟨b0, b1, b2, b3, b4, b5, b6, b7, b8⟩ := zcells T3.out.b
  obtain ⟨c0, c1, c2, c3, c4, c5, c6, c7, c8⟩ := zcells T3.out.c
  go_wp2_with fail
  refine (HL2.out _).mono ?_
  rintro e w4 ⟨rfl, b4⟩
  have T4 := Lib.hid (T3.out.next b4)
  clear a0 a1 a2 a3 a4 a5 a6 a7 a8 b0 b1 b2 b3 b4 b5 b6 b7 b8 c0 c1 c2 c3 c4 c5 c6 c7 c8
  clear b4
  obtain ⟨a0, a1, a2, a3, a4, a5, a6, a7, a8⟩ := zcells T4.out.a
  obtain ⟨b0, b1, b2, b3, b4, b5, b6, b7, b8⟩ := zcells T4.out.b
  obtain ⟨c0, c1, c2, c3, c4, c5, c6, c7, c8⟩ := zcells T4.out.c
  go_wp2_with fail
  go_ret
  exact ⟨rfl, T4.out.h⟩

set_option maxHeartbeats 8000000 in
set_option maxRecDepth 100000 in
theorem total_l3 (k1 i1 e1 t1 d1 k2 i2 e2 t2 d2 k3 i3 e3 t3 d3 : Int) (p1 n1 v1 p2 n2 v2 p3 n3 v3 : ByteArray) (f1 f2 f3 : Bool) (w : World) (HA : Hid (Ct w 14 #[] (.bool true)))
    (HL1 : Hid (∀ W, Calls Tryz.prog 9 #[.agg #[.int .u8 k1, .int .i64 i1, .int .i64 e1, .int .i64 t1, .int .i64 d1, .string p1, .string n1, .string v1, .bool f1]] W (BelB W false)))
    (HL2 : Hid (∀ W, Calls Tryz.prog 9 #[.agg #[.int .u8 k2, .int .i64 i2, .int .i64 e2, .int .i64 t2, .int .i64 d2, .string p2, .string n2, .string v2, .bool f2]] W (BelB W false)))
    (HL3 : Hid (∀ W, Calls Tryz.prog 9 #[.agg #[.int .u8 k3, .int .i64 i3, .int .i64 e3, .int .i64 t3, .int .i64 d3, .string p3, .string n3, .string v3, .bool f3]] W (BelB W true))) :
    Calls Tryz.prog 4 #[.agg #[.int .u8 k1, .int .i64 i1, .int .i64 e1, .int .i64 t1, .int .i64 d1, .string p1, .string n1, .string v1, .bool f1], .agg #[.int .u8 k2, .int .i64 i2, .int .i64 e2, .int .i64 t2, .int .i64 d2, .string p2, .string n2, .string v2, .bool f2], .agg #[.int .u8 k3, .int .i64 i3, .int .i64 e3, .int .i64 t3, .int .i64 d3, .string p3, .string n3, .string v3, .bool f3]] w (BelB w true) := by
  go_enter Tryz.func4, Tryz.ntmps4
  go_wp2_with fail
  have T1 := Lib.hid (Three.start w (.cells #[.int .u8 k1, .int .i64 i1, .int .i64 e1, .int .i64 t1, .int .i64 d1, .string p1, .string n1, .string v1, .bool f1] 24) (.cells #[.int .u8 k2, .int .i64 i2, .int .i64 e2, .int .i64 t2, .int .i64 d2, .string p2, .string n2, .string v2, .bool f2] 24) (.cells #[.int .u8 k3, .int .i64 i3, .int .i64 e3, .int .i64 t3, .int .i64 d3, .string p3, .string n3, .string v3, .bool f3] 24))
  refine (HA.out.use T1.out.h).mono ?_
  rintro e w2 ⟨rfl, b2⟩
  have T2 := Lib.hid (T1.out.next b2)
  clear b2
  obtain ⟨a0, a1, a2, a3, a4, a5, a6, a7, a8⟩ := zcells T2.out.a
  obtain ⟨b0, b1, b2, b3, b4, b5, b6, b7, b8⟩ := zcells T2.out.b
  obtain ⟨c0, c1, c2, c3, c4, c5, c6, c7, c8⟩ := zcells T2.out.c
  go_wp2_with fail
  refine (HL1.out _).mono ?_
  rintro e w3 ⟨rfl, b3⟩
  have T3 := Lib.hid (T2.out.next b3)
  clear a0 a1 a2 a3 a4 a5 a6 a7 a8 b0 b1 b2 b3 b4 b5 b6 b7 b8 c0 c1 c2 c3 c4 c5 c6 c7 c8
  clear b3
  obtain ⟨a0, a1, a2, a3, a4, a5, a6, a7, a8⟩ := zcells T3.out.a
  obtain ⟨b0, b1, b2, b3, b4, b5, b6, b7, b8⟩ := zcells T3.out.b
  obtain ⟨c0, c1, c2, c3, c4, c5, c6, c7, c8⟩ := zcells T3.out.c
  go_wp2_with fail
  refine (HL2.out _).mono ?_
  rintro e w4 ⟨rfl, b4⟩
  have T4 := Lib.hid (T3.out.next b4)
  clear a0 a1 a2 a3 a4 a5 a6 a7 a8 b0 b1 b2 b3 b4 b5 b6 b7 b8 c0 c1 c2 c3 c4 c5 c6 c7 c8
  clear b4
  obtain ⟨a0, a1, a2, a3, a4, a5, a6, a7, a8⟩ := zcells T4.out.a
  obtain ⟨b0, b1, b2, b3, b4, b5, b6, b7, b8⟩ := zcells T4.out.b
  obtain ⟨c0, c1, c2, c3, c4, c5, c6, c7, c8⟩ := zcells T4.out.c
  go_wp2_with fail
  refine (HL3.out _).mono ?_
  rintro e w5 ⟨rfl, b5⟩
  have T5 := Lib.hid (T4.out.next b5)
  clear a0 a1 a2 a3 a4 a5 a6 a7 a8 b0 b1 b2 b3 b4 b5 b6 b7 b8 c0 c1 c2 c3 c4 c5 c6 c7 c8
  clear b5
  obtain ⟨a0, a1, a2, a3, a4, a5, a6, a7, a8⟩ := zcells T5.out.a
  obtain ⟨b0, b1, b2, b3, b4, b5, b6, b7, b8⟩ := zcells T5.out.b
  obtain ⟨c0, c1, c2, c3, c4, c5, c6, c7, c8⟩ := zcells T5.out.c
  go_wp2_with fail
  go_ret
  exact ⟨rfl, T5.out.h⟩

set_option maxHeartbeats 8000000 in
set_option maxRecDepth 100000 in
theorem total_all (k1 i1 e1 t1 d1 k2 i2 e2 t2 d2 k3 i3 e3 t3 d3 : Int) (p1 n1 v1 p2 n2 v2 p3 n3 v3 : ByteArray) (f1 f2 f3 : Bool) (w : World) (HA : Hid (Ct w 14 #[] (.bool true)))
    (cx cy cz : Int)
    (HL1 : Hid (∀ W, Calls Tryz.prog 9 #[.agg #[.int .u8 k1, .int .i64 i1, .int .i64 e1, .int .i64 t1, .int .i64 d1, .string p1, .string n1, .string v1, .bool f1]] W (BelB W false)))
    (HL2 : Hid (∀ W, Calls Tryz.prog 9 #[.agg #[.int .u8 k2, .int .i64 i2, .int .i64 e2, .int .i64 t2, .int .i64 d2, .string p2, .string n2, .string v2, .bool f2]] W (BelB W false)))
    (HL3 : Hid (∀ W, Calls Tryz.prog 9 #[.agg #[.int .u8 k3, .int .i64 i3, .int .i64 e3, .int .i64 t3, .int .i64 d3, .string p3, .string n3, .string v3, .bool f3]] W (BelB W false)))
    (H12 : Hid (∀ W, Calls Tryz.prog 15 #[.agg #[.int .u8 k1, .int .i64 i1, .int .i64 e1, .int .i64 t1, .int .i64 d1, .string p1, .string n1, .string v1, .bool f1], .agg #[.int .u8 k2, .int .i64 i2, .int .i64 e2, .int .i64 t2, .int .i64 d2, .string p2, .string n2, .string v2, .bool f2]] W fun e w' => e = .returned (.int .i64 cx) ∧ Below W.heap.size W w'))
    (H23 : Hid (∀ W, Calls Tryz.prog 15 #[.agg #[.int .u8 k2, .int .i64 i2, .int .i64 e2, .int .i64 t2, .int .i64 d2, .string p2, .string n2, .string v2, .bool f2], .agg #[.int .u8 k3, .int .i64 i3, .int .i64 e3, .int .i64 t3, .int .i64 d3, .string p3, .string n3, .string v3, .bool f3]] W fun e w' => e = .returned (.int .i64 cy) ∧ Below W.heap.size W w'))
    (H13 : Hid (∀ W, Calls Tryz.prog 15 #[.agg #[.int .u8 k1, .int .i64 i1, .int .i64 e1, .int .i64 t1, .int .i64 d1, .string p1, .string n1, .string v1, .bool f1], .agg #[.int .u8 k3, .int .i64 i3, .int .i64 e3, .int .i64 t3, .int .i64 d3, .string p3, .string n3, .string v3, .bool f3]] W fun e w' => e = .returned (.int .i64 cz) ∧ Below W.heap.size W w'))
    (H21 : Hid (∀ W, Calls Tryz.prog 15 #[.agg #[.int .u8 k2, .int .i64 i2, .int .i64 e2, .int .i64 t2, .int .i64 d2, .string p2, .string n2, .string v2, .bool f2], .agg #[.int .u8 k1, .int .i64 i1, .int .i64 e1, .int .i64 t1, .int .i64 d1, .string p1, .string n1, .string v1, .bool f1]] W fun e w' => e = .returned (.int .i64 (-cx)) ∧ Below W.heap.size W w'))
    (H11 : Hid (∀ W, Calls Tryz.prog 15 #[.agg #[.int .u8 k1, .int .i64 i1, .int .i64 e1, .int .i64 t1, .int .i64 d1, .string p1, .string n1, .string v1, .bool f1], .agg #[.int .u8 k1, .int .i64 i1, .int .i64 e1, .int .i64 t1, .int .i64 d1, .string p1, .string n1, .string v1, .bool f1]] W fun e w' => e = .returned (.int .i64 0) ∧ Below W.heap.size W w'))
    (x1 : -1 ≤ cx) (x2 : cx ≤ 1) (y1 : -1 ≤ cy) (y2 : cy ≤ 1) (z1 : -1 ≤ cz) (z2 : cz ≤ 1)
    (qk qi qe qt qd qp qn qv qf : Bool) (gk : (k1 == k2) = qk) (gi : (i1 == i2) = qi) (ge : (e1 == e2) = qe) (gt : (t1 == t2) = qt) (gd : (d1 == d2) = qd) (gp : (p1.toList == p2.toList) = qp) (gn : (n1.toList == n2.toList) = qn) (gv : (v1.toList == v2.toList) = qv) (gf : (f1 == f2) = qf)
    (HQ : Hid ((cx == 0) = (qk && (qi && (qe && (qt && (qd && (qp && (qn && (qv && qf)))))))))) (HY : Hid ((cx ≤ 0 → cy ≤ 0 → cz ≤ 0) ∧ (cx < 0 → cy ≤ 0 → cz < 0) ∧ (cx ≤ 0 → cy < 0 → cz < 0))) :
    Calls Tryz.prog 4 #[.agg #[.int .u8 k1, .int .i64 i1, .int .i64 e1, .int .i64 t1, .int .i64 d1, .string p1, .string n1, .string v1, .bool f1], .agg #[.int .u8 k2, .int .i64 i2, .int .i64 e2, .int .i64 t2, .int .i64 d2, .string p2, .string n2, .string v2, .bool f2], .agg #[.int .u8 k3, .int .i64 i3, .int .i64 e3, .int .i64 t3, .int .i64 d3, .string p3, .string n3, .string v3, .bool f3]] w (BelB w true) := by
  go_enter Tryz.func4, Tryz.ntmps4
  go_wp2_with fail
  have T1 := Lib.hid (Three.start w (.cells #[.int .u8 k1, .int .i64 i1, .int .i64 e1, .int .i64 t1, .int .i64 d1, .string p1, .string n1, .string v1, .bool f1] 24) (.cells #[.int .u8 k2, .int .i64 i2, .int .i64 e2, .int .i64 t2, .int .i64 d2, .string p2, .string n2, .string v2, .bool f2] 24) (.cells #[.int .u8 k3, .int .i64 i3, .int .i64 e3, .int .i64 t3, .int .i64 d3, .string p3, .string n3, .string v3, .bool f3] 24))
  refine (HA.out.use T1.out.h).mono ?_
  rintro e w2 ⟨rfl, b2⟩
  have T2 := Lib.hid (T1.out.next b2)
  clear b2
  obtain ⟨a0, a1, a2, a3, a4, a5, a6, a7, a8⟩ := zcells T2.out.a
  obtain ⟨b0, b1, b2, b3, b4, b5, b6, b7, b8⟩ := zcells T2.out.b
  obtain ⟨c0, c1, c2, c3, c4, c5, c6, c7, c8⟩ := zcells T2.out.c
  go_wp2_with fail
  refine (HL1.out _).mono ?_
  rintro e w3 ⟨rfl, b3⟩
  have T3 := Lib.hid (T2.out.next b3)
  clear a0 a1 a2 a3 a4 a5 a6 a7 a8 b0 b1 b2 b3 b4 b5 b6 b7 b8 c0 c1 c2 c3 c4 c5 c6 c7 c8
  clear b3
  obtain ⟨a0, a1, a2, a3, a4, a5, a6, a7, a8⟩ := zcells T3.out.a
  obtain ⟨b0, b1, b2, b3, b4, b5, b6, b7, b8⟩ := zcells T3.out.b
  obtain ⟨c0, c1, c2, c3, c4, c5, c6, c7, c8⟩ := zcells T3.out.c
  go_wp2_with fail
  refine (HL2.out _).mono ?_
  rintro e w4 ⟨rfl, b4⟩
  have T4 := Lib.hid (T3.out.next b4)
  clear a0 a1 a2 a3 a4 a5 a6 a7 a8 b0 b1 b2 b3 b4 b5 b6 b7 b8 c0 c1 c2 c3 c4 c5 c6 c7 c8
  clear b4
  obtain ⟨a0, a1, a2, a3, a4, a5, a6, a7, a8⟩ := zcells T4.out.a
  obtain ⟨b0, b1, b2, b3, b4, b5, b6, b7, b8⟩ := zcells T4.out.b
  obtain ⟨c0, c1, c2, c3, c4, c5, c6, c7, c8⟩ := zcells T4.out.c
  go_wp2_with fail
  refine (HL3.out _).mono ?_
  rintro e w5 ⟨rfl, b5⟩
  have T5 := Lib.hid (T4.out.next b5)
  clear a0 a1 a2 a3 a4 a5 a6 a7 a8 b0 b1 b2 b3 b4 b5 b6 b7 b8 c0 c1 c2 c3 c4 c5 c6 c7 c8
  clear b5
  obtain ⟨a0, a1, a2, a3, a4, a5, a6, a7, a8⟩ := zcells T5.out.a
  obtain ⟨b0, b1, b2, b3, b4, b5, b6, b7, b8⟩ := zcells T5.out.b
  obtain ⟨c0, c1, c2, c3, c4, c5, c6, c7, c8⟩ := zcells T5.out.c
  go_upto_region 4 with (fail)
  have a0' := fun p : BelOf w5 => cell_bel a0 p
  have a1' := fun p : BelOf w5 => cell_bel a1 p
  have a2' := fun p : BelOf w5 => cell_bel a2 p
  have a3' := fun p : BelOf w5 => cell_bel a3 p
  have a4' := fun p : BelOf w5 => cell_bel a4 p
  have a5' := fun p : BelOf w5 => cell_bel a5 p
  have a6' := fun p : BelOf w5 => cell_bel a6 p
  have a7' := fun p : BelOf w5 => cell_bel a7 p
  have a8' := fun p : BelOf w5 => cell_bel a8 p
  have b0' := fun p : BelOf w5 => cell_bel b0 p
  have b1' := fun p : BelOf w5 => cell_bel b1 p
  have b2' := fun p : BelOf w5 => cell_bel b2 p
  have b3' := fun p : BelOf w5 => cell_bel b3 p
  have b4' := fun p : BelOf w5 => cell_bel b4 p
  have b5' := fun p : BelOf w5 => cell_bel b5 p
  have b6' := fun p : BelOf w5 => cell_bel b6 p
  have b7' := fun p : BelOf w5 => cell_bel b7 p
  have b8' := fun p : BelOf w5 => cell_bel b8 p
  have c0' := fun p : BelOf w5 => cell_bel c0 p
  have c1' := fun p : BelOf w5 => cell_bel c1 p
  have c2' := fun p : BelOf w5 => cell_bel c2 p
  have c3' := fun p : BelOf w5 => cell_bel c3 p
  have c4' := fun p : BelOf w5 => cell_bel c4 p
  have c5' := fun p : BelOf w5 => cell_bel c5 p
  have c6' := fun p : BelOf w5 => cell_bel c6 p
  have c7' := fun p : BelOf w5 => cell_bel c7 p
  have c8' := fun p : BelOf w5 => cell_bel c8 p
  clear a0 a1 a2 a3 a4 a5 a6 a7 a8 b0 b1 b2 b3 b4 b5 b6 b7 b8 c0 c1 c2 c3 c4 c5 c6 c7 c8
  refine region_bel (by kernel_rfl) (by kernel_rfl) ?_
  repeat (quiet_step (first
    | (go_at_call 15; first | with_reducible exact bel_of (H12.out _) | with_reducible exact bel_of (H23.out _) | with_reducible exact bel_of (H13.out _))))
  refine wpQuiet_nil ?_
  intro w9 hw9
  obtain ⟨⟨w10, hw10⟩, hw11⟩ := hw9
  subst hw11
  have T10 := Lib.hid (T5.out.next hw10)
  clear hw10 a0' a1' a2' a3' a4' a5' a6' a7' a8' b0' b1' b2' b3' b4' b5' b6' b7' b8' c0' c1' c2' c3' c4' c5' c6' c7' c8'
  go_upto_region 5 with (fail)
  go_cut [63] (fun s63 wx => s63 = .bool false ∧ Below w.heap.size w wx)
  case first =>
    obtain ⟨a0, a1, a2, a3, a4, a5, a6, a7, a8⟩ := zcells T10.out.a
    obtain ⟨b0, b1, b2, b3, b4, b5, b6, b7, b8⟩ := zcells T10.out.b
    obtain ⟨c0, c1, c2, c3, c4, c5, c6, c7, c8⟩ := zcells T10.out.c
    go_wp2_with fail
    refine (H21.out _).mono ?_
    rintro e w11 ⟨rfl, b11⟩
    have T11 := Lib.hid (T10.out.next b11)
    clear a0 a1 a2 a3 a4 a5 a6 a7 a8 b0 b1 b2 b3 b4 b5 b6 b7 b8 c0 c1 c2 c3 c4 c5 c6 c7 c8
    clear b11
    obtain ⟨a0, a1, a2, a3, a4, a5, a6, a7, a8⟩ := zcells T11.out.a
    obtain ⟨b0, b1, b2, b3, b4, b5, b6, b7, b8⟩ := zcells T11.out.b
    obtain ⟨c0, c1, c2, c3, c4, c5, c6, c7, c8⟩ := zcells T11.out.c
    cases qk with
    | false =>
      have z : (cx == 0) = false := HQ.out
      go_wp2_with fail
      refine (H11.out _).mono ?_
      rintro e w12 ⟨rfl, b12⟩
      have T12 := Lib.hid (T11.out.next b12)
      clear a0 a1 a2 a3 a4 a5 a6 a7 a8 b0 b1 b2 b3 b4 b5 b6 b7 b8 c0 c1 c2 c3 c4 c5 c6 c7 c8
      clear b12
      go_wp2_with fail
      go_meet
      exact ⟨congrArg Value.bool (by simp only [Bool.or_eq_false_iff, decide_eq_false_iff_not]; omega), T12.out.h⟩
    | true =>
    cases qi with
    | false =>
      have z : (cx == 0) = false := HQ.out
      go_wp2_with fail
      refine (H11.out _).mono ?_
      rintro e w12 ⟨rfl, b12⟩
      have T12 := Lib.hid (T11.out.next b12)
      clear a0 a1 a2 a3 a4 a5 a6 a7 a8 b0 b1 b2 b3 b4 b5 b6 b7 b8 c0 c1 c2 c3 c4 c5 c6 c7 c8
      clear b12
      go_wp2_with fail
      go_meet
      exact ⟨congrArg Value.bool (by simp only [Bool.or_eq_false_iff, decide_eq_false_iff_not]; omega), T12.out.h⟩
    | true =>
    cases qe with
    | false =>
      have z : (cx == 0) = false := HQ.out
      go_wp2_with fail
      refine (H11.out _).mono ?_
      rintro e w12 ⟨rfl, b12⟩
      have T12 := Lib.hid (T11.out.next b12)
      clear a0 a1 a2 a3 a4 a5 a6 a7 a8 b0 b1 b2 b3 b4 b5 b6 b7 b8 c0 c1 c2 c3 c4 c5 c6 c7 c8
      clear b12
      go_wp2_with fail
      go_meet
      exact ⟨congrArg Value.bool (by simp only [Bool.or_eq_false_iff, decide_eq_false_iff_not]; omega), T12.out.h⟩
    | true =>
    cases qt with
    | false =>
      have z : (cx == 0) = false := HQ.out
      go_wp2_with fail
      refine (H11.out _).mono ?_
      rintro e w12 ⟨rfl, b12⟩
      have T12 := Lib.hid (T11.out.next b12)
      clear a0 a1 a2 a3 a4 a5 a6 a7 a8 b0 b1 b2 b3 b4 b5 b6 b7 b8 c0 c1 c2 c3 c4 c5 c6 c7 c8
      clear b12
      go_wp2_with fail
      go_meet
      exact ⟨congrArg Value.bool (by simp only [Bool.or_eq_false_iff, decide_eq_false_iff_not]; omega), T12.out.h⟩
    | true =>
    cases qd with
    | false =>
      have z : (cx == 0) = false := HQ.out
      go_wp2_with fail
      refine (H11.out _).mono ?_
      rintro e w12 ⟨rfl, b12⟩
      have T12 := Lib.hid (T11.out.next b12)
      clear a0 a1 a2 a3 a4 a5 a6 a7 a8 b0 b1 b2 b3 b4 b5 b6 b7 b8 c0 c1 c2 c3 c4 c5 c6 c7 c8
      clear b12
      go_wp2_with fail
      go_meet
      exact ⟨congrArg Value.bool (by simp only [Bool.or_eq_false_iff, decide_eq_false_iff_not]; omega), T12.out.h⟩
    | true =>
    cases qp with
    | false =>
      have z : (cx == 0) = false := HQ.out
      go_wp2_with fail
      refine (H11.out _).mono ?_
      rintro e w12 ⟨rfl, b12⟩
      have T12 := Lib.hid (T11.out.next b12)
      clear a0 a1 a2 a3 a4 a5 a6 a7 a8 b0 b1 b2 b3 b4 b5 b6 b7 b8 c0 c1 c2 c3 c4 c5 c6 c7 c8
      clear b12
      go_wp2_with fail
      go_meet
      exact ⟨congrArg Value.bool (by simp only [Bool.or_eq_false_iff, decide_eq_false_iff_not]; omega), T12.out.h⟩
    | true =>
    cases qn with
    | false =>
      have z : (cx == 0) = false := HQ.out
      go_wp2_with fail
      refine (H11.out _).mono ?_
      rintro e w12 ⟨rfl, b12⟩
      have T12 := Lib.hid (T11.out.next b12)
      clear a0 a1 a2 a3 a4 a5 a6 a7 a8 b0 b1 b2 b3 b4 b5 b6 b7 b8 c0 c1 c2 c3 c4 c5 c6 c7 c8
      clear b12
      go_wp2_with fail
      go_meet
      exact ⟨congrArg Value.bool (by simp only [Bool.or_eq_false_iff, decide_eq_false_iff_not]; omega), T12.out.h⟩
    | true =>
    cases qv with
    | false =>
      have z : (cx == 0) = false := HQ.out
      go_wp2_with fail
      refine (H11.out _).mono ?_
      rintro e w12 ⟨rfl, b12⟩
      have T12 := Lib.hid (T11.out.next b12)
      clear a0 a1 a2 a3 a4 a5 a6 a7 a8 b0 b1 b2 b3 b4 b5 b6 b7 b8 c0 c1 c2 c3 c4 c5 c6 c7 c8
      clear b12
      go_wp2_with fail
      go_meet
      exact ⟨congrArg Value.bool (by simp only [Bool.or_eq_false_iff, decide_eq_false_iff_not]; omega), T12.out.h⟩
    | true =>
    cases qf with
    | false =>
      have z : (cx == 0) = false := HQ.out
      go_wp2_with fail
      refine (H11.out _).mono ?_
      rintro e w12 ⟨rfl, b12⟩
      have T12 := Lib.hid (T11.out.next b12)
      clear a0 a1 a2 a3 a4 a5 a6 a7 a8 b0 b1 b2 b3 b4 b5 b6 b7 b8 c0 c1 c2 c3 c4 c5 c6 c7 c8
      clear b12
      go_wp2_with fail
      go_meet
      exact ⟨congrArg Value.bool (by simp only [Bool.or_eq_false_iff, decide_eq_false_iff_not]; omega), T12.out.h⟩
    | true =>
    have z : (cx == 0) = true := HQ.out
    go_wp2_with fail
    refine (H11.out _).mono ?_
    rintro e w12 ⟨rfl, b12⟩
    have T12 := Lib.hid (T11.out.next b12)
    clear a0 a1 a2 a3 a4 a5 a6 a7 a8 b0 b1 b2 b3 b4 b5 b6 b7 b8 c0 c1 c2 c3 c4 c5 c6 c7 c8
    clear b12
    go_wp2_with fail
    go_meet
    exact ⟨congrArg Value.bool (by simp only [Bool.or_eq_false_iff, decide_eq_false_iff_not]; omega), T12.out.h⟩
  case rest =>
  obtain ⟨rfl, hb⟩ := hcut
  have HB := Lib.hid hb
  have Y1 := HY.out
  clear hb
  rcases (by omega : cx = -1 ∨ cx = 0 ∨ cx = 1) with rfl | rfl | rfl <;> rcases (by omega : cy = -1 ∨ cy = 0 ∨ cy = 1) with rfl | rfl | rfl <;> rcases (by omega : cz = -1 ∨ cz = 0 ∨ cz = 1) with rfl | rfl | rfl
  all_goals first | omega | skip
  all_goals
    go_wp2_with fail
    go_ret
    exact ⟨rfl, HB.out⟩

end Go.Proofs.YtcfgpojogomkhaaGreatDoor

namespace Go.Proofs.YtcfgpojogomkhaaGreatDoor
open Go.RowKit

theorem cmpS_eq {a b : ByteArray} : (a.toList == b.toList) = true ↔ a = b :=
  ⟨fun h => toList_inj (by simpa using h), fun h => by rw [h]; simp⟩
theorem ev_eq (x y : Ev) : (cmpEv x y == 0) = ((x.kind == y.kind) && ((x.id == y.id) && ((x.entry == y.entry) && ((x.target == y.target) && ((x.date == y.date) && ((x.party.toList == y.party.toList) && ((x.name.toList == y.name.toList) && ((x.value.toList == y.value.toList) && (x.first == y.first))))))))) := by
  rw [Bool.eq_iff_iff]
  simp only [Bool.and_eq_true, beq_iff_eq]
  constructor
  · intro h
    have := cmpEv_zero h
    subst this
    simp
  · rintro ⟨h1, h2, h3, h4, h5, h6, h7, h8, h9⟩
    have : x = y := by
      cases x; cases y
      simp only [Ev.mk.injEq]
      exact ⟨h1, h2, h3, h4, h5, toList_inj h6, toList_inj h7, toList_inj h8, h9⟩
    rw [this, cmpEv_self]
theorem ev_order (x y z : Ev) : (cmpEv x y ≤ 0 → cmpEv y z ≤ 0 → cmpEv x z ≤ 0) ∧ (cmpEv x y < 0 → cmpEv y z ≤ 0 → cmpEv x z < 0) ∧ (cmpEv x y ≤ 0 → cmpEv y z < 0 → cmpEv x z < 0) := by
  have t := tot_ev.trans x y z
  have c1 := fun h => tot_ev.cong x y z h
  have c2 : cmpEv y z = 0 → cmpEv x z = cmpEv x y := fun h => by rw [cmpEv_zero h]
  refine ⟨fun h1 h2 => ?_, fun h1 h2 => ?_, fun h1 h2 => ?_⟩
  all_goals
    by_cases e1 : cmpEv x y = 0
    · have := c1 e1; omega
    · by_cases e2 : cmpEv y z = 0
      · have := c2 e2; omega
      · have := t (by omega) (by omega); omega

theorem cmp_hid (x y : Ev) (c : Int) (h : cmpEv x y = c) : Hid (∀ W, Calls Tryz.prog 15 #[evV x, evV y] W fun e w' => e = .returned (.int .i64 c) ∧ Below W.heap.size W w') := fun W => h ▸ cmp_ct x y W W (Below.refl _ _)
theorem long_hid (x : Ev) (b : Bool) (h : longB x = b) : Hid (∀ W, Calls Tryz.prog 9 #[evV x] W (BelB W b)) := fun W => h ▸ long_any x.kind x.id x.entry x.target x.date x.party x.name x.value x.first W

theorem total_any (x y z : Ev) (w : World) (h : Env w) : Calls Tryz.prog 4 #[evV x, evV y, evV z] w (BelB w true) := by
  have HA := Lib.hid (alive_ct h)
  cases hx : longB x with
  | true => exact total_l1 _ _ _ _ _ _ _ _ _ _ _ _ _ _ _ _ _ _ _ _ _ _ _ _ _ _ _ w HA (long_hid x _ hx)
  | false =>
    cases hy : longB y with
    | true => exact total_l2 _ _ _ _ _ _ _ _ _ _ _ _ _ _ _ _ _ _ _ _ _ _ _ _ _ _ _ w HA (long_hid x _ hx) (long_hid y _ hy)
    | false =>
      cases hz : longB z with
      | true => exact total_l3 _ _ _ _ _ _ _ _ _ _ _ _ _ _ _ _ _ _ _ _ _ _ _ _ _ _ _ w HA (long_hid x _ hx) (long_hid y _ hy) (long_hid z _ hz)
      | false =>
        have r1 := cmpEv_rng x y
        have r2 := cmpEv_rng y z
        have r3 := cmpEv_rng x z
        exact total_all _ _ _ _ _ _ _ _ _ _ _ _ _ _ _ _ _ _ _ _ _ _ _ _ _ _ _ w HA (cmpEv x y) (cmpEv y z) (cmpEv x z) (long_hid x _ hx) (long_hid y _ hy) (long_hid z _ hz)
          (cmp_hid x y _ rfl) (cmp_hid y z _ rfl) (cmp_hid x z _ rfl) (cmp_hid y x _ (tot_ev.anti x y)) (cmp_hid x x _ (cmpEv_self x)) r1.1 r1.2 r2.1 r2.2 r3.1 r3.2 _ _ _ _ _ _ _ _ _ rfl rfl rfl rfl rfl rfl rfl rfl rfl (Lib.hid (ev_eq x y)) (Lib.hid (ev_order x y z))

end Go.Proofs.YtcfgpojogomkhaaGreatDoor
