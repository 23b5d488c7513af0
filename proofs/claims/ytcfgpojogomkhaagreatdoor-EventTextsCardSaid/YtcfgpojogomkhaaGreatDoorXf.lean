/-
  novationlaw17.EventWords walked. Condition: the callees' contracts, as hypotheses.
-/
import Derived.Test.YtcfgpojogomkhaaGreatDoorXd
namespace Go.Proofs.YtcfgpojogomkhaaGreatDoor
open Go.RowKit

set_option maxHeartbeats 8000000 in
set_option maxRecDepth 100000 in
theorem words_l1 (k1 i1 e1 t1 d1 k2 i2 e2 t2 d2 : Int) (p1 n1 v1 p2 n2 v2 : ByteArray) (f1 f2 : Bool) (s : ByteArray) (w : World)  (HA : Hid (Ct w 14 #[] (.bool true)))
    (HL1 : Hid (∀ W, Calls Tryz.prog 9 #[.agg #[.int .u8 k1, .int .i64 i1, .int .i64 e1, .int .i64 t1, .int .i64 d1, .string p1, .string n1, .string v1, .bool f1]] W (BelB W true))) :
    Calls Tryz.prog 5 #[.agg #[.int .u8 k1, .int .i64 i1, .int .i64 e1, .int .i64 t1, .int .i64 d1, .string p1, .string n1, .string v1, .bool f1], .agg #[.int .u8 k2, .int .i64 i2, .int .i64 e2, .int .i64 t2, .int .i64 d2, .string p2, .string n2, .string v2, .bool f2], .string s] w (BelB w true) := by
  go_enter Tryz.func5, Tryz.ntmps5
  go_wp2_with fail
  have T1 := Lib.hid (Two.start w (.cells #[.int .u8 k1, .int .i64 i1, .int .i64 e1, .int .i64 t1, .int .i64 d1, .string p1, .string n1, .string v1, .bool f1] 24) (.cells #[.int .u8 k2, .int .i64 i2, .int .i64 e2, .int .i64 t2, .int .i64 d2, .string p2, .string n2, .string v2, .bool f2] 24))
  refine (HA.out.use T1.out.h).mono ?_
  rintro e w2 ⟨rfl, b2⟩
  have T2 := Lib.hid (T1.out.next b2)
  clear b2
  obtain ⟨a0, a1, a2, a3, a4, a5, a6, a7, a8⟩ := zcells T2.out.a
  obtain ⟨b0, b1, b2, b3, b4, b5, b6, b7, b8⟩ := zcells T2.out.b
  go_wp2_with fail
  refine (HL1.out _).mono ?_
  rintro e w3 ⟨rfl, b3⟩
  have T3 := Lib.hid (T2.out.next b3)
  clear a0 a1 a2 a3 a4 a5 a6 a7 a8 b0 b1 b2 b3 b4 b5 b6 b7 b8
  clear b3
  obtain ⟨a0, a1, a2, a3, a4, a5, a6, a7, a8⟩ := zcells T3.out.a
  obtain ⟨b0, b1, b2, b3, b4, b5, b6, b7, b8⟩ := zcells T3.out.b
  go_wp2_with fail
  go_ret
  exact ⟨rfl, T3.out.h⟩

set_option maxHeartbeats 8000000 in
set_option maxRecDepth 100000 in
theorem words_l2 (k1 i1 e1 t1 d1 k2 i2 e2 t2 d2 : Int) (p1 n1 v1 p2 n2 v2 : ByteArray) (f1 f2 : Bool) (s : ByteArray) (w : World)  (HA : Hid (Ct w 14 #[] (.bool true)))
    (HL1 : Hid (∀ W, Calls Tryz.prog 9 #[.agg #[.int .u8 k1, .int .i64 i1, .int .i64 e1, .int .i64 t1, .int .i64 d1, .string p1, .string n1, .string v1, .bool f1]] W (BelB W false)))
    (HL2 : Hid (∀ W, Calls Tryz.prog 9 #[.agg #[.int .u8 k2, .int .i64 i2, .int .i64 e2, .int .i64 t2, .int .i64 d2, .string p2, .string n2, .string v2, .bool f2]] W (BelB W true))) :
    Calls Tryz.prog 5 #[.agg #[.int .u8 k1, .int .i64 i1, .int .i64 e1, .int .i64 t1, .int .i64 d1, .string p1, .string n1, .string v1, .bool f1], .agg #[.int .u8 k2, .int .i64 i2, .int .i64 e2, .int .i64 t2, .int .i64 d2, .string p2, .string n2, .string v2, .bool f2], .string s] w (BelB w true) := by
  go_enter Tryz.func5, Tryz.ntmps5
  go_wp2_with fail
  have T1 := Lib.hid (Two.start w (.cells #[.int .u8 k1, .int .i64 i1, .int .i64 e1, .int .i64 t1, .int .i64 d1, .string p1, .string n1, .string v1, .bool f1] 24) (.cells #[.int .u8 k2, .int .i64 i2, .int .i64 e2, .int .i64 t2, .int .i64 d2, .string p2, .string n2, .string v2, .bool f2] 24))
  refine (HA.out.use T1.out.h).mono ?_
  rintro e w2 ⟨rfl, b2⟩
  have T2 := Lib.hid (T1.out.next b2)
  clear b2
  obtain ⟨a0, a1, a2, a3, a4, a5, a6, a7, a8⟩ := zcells T2.out.a
  obtain ⟨b0, b1, b2, b3, b4, b5, b6, b7, b8⟩ := zcells T2.out.b
  go_wp2_with fail
  refine (HL1.out _).mono ?_
  rintro e w3 ⟨rfl, b3⟩
  have T3 := Lib.hid (T2.out.next b3)
  clear a0 a1 a2 a3 a4 a5 a6 a7 a8 b0 b1 b2 b3 b4 b5 b6 b7 b8
  clear b3
  obtain ⟨a0, a1, a2, a3, a4, a5, a6, a7, a8⟩ := zcells T3.out.a
  obtain ⟨b0, b1, b2, b3, b4, b5, b6, b7, b8⟩ := zcells T3.out.b
  go_wp2_with fail
  refine (HL2.out _).mono ?_
  rintro e w4 ⟨rfl, b4⟩
  have T4 := Lib.hid (T3.out.next b4)
  clear a0 a1 a2 a3 a4 a5 a6 a7 a8 b0 b1 b2 b3 b4 b5 b6 b7 b8
  clear b4
  obtain ⟨a0, a1, a2, a3, a4, a5, a6, a7, a8⟩ := zcells T4.out.a
  obtain ⟨b0, b1, b2, b3, b4, b5, b6, b7, b8⟩ := zcells T4.out.b
  go_wp2_with fail
  go_ret
  exact ⟨rfl, T4.out.h⟩

set_option maxHeartbeats 8000000 in
set_option maxRecDepth 100000 in
theorem words_l3 (k1 i1 e1 t1 d1 k2 i2 e2 t2 d2 : Int) (p1 n1 v1 p2 n2 v2 : ByteArray) (f1 f2 : Bool) (s : ByteArray) (w : World)  (HA : Hid (Ct w 14 #[] (.bool true)))
    (HL1 : Hid (∀ W, Calls Tryz.prog 9 #[.agg #[.int .u8 k1, .int .i64 i1, .int .i64 e1, .int .i64 t1, .int .i64 d1, .string p1, .string n1, .string v1, .bool f1]] W (BelB W false)))
    (HL2 : Hid (∀ W, Calls Tryz.prog 9 #[.agg #[.int .u8 k2, .int .i64 i2, .int .i64 e2, .int .i64 t2, .int .i64 d2, .string p2, .string n2, .string v2, .bool f2]] W (BelB W false)))
    (gs : decide ((3000 : Int) < (s.size : Int)) = true) :
    Calls Tryz.prog 5 #[.agg #[.int .u8 k1, .int .i64 i1, .int .i64 e1, .int .i64 t1, .int .i64 d1, .string p1, .string n1, .string v1, .bool f1], .agg #[.int .u8 k2, .int .i64 i2, .int .i64 e2, .int .i64 t2, .int .i64 d2, .string p2, .string n2, .string v2, .bool f2], .string s] w (BelB w true) := by
  go_enter Tryz.func5, Tryz.ntmps5
  go_wp2_with fail
  have T1 := Lib.hid (Two.start w (.cells #[.int .u8 k1, .int .i64 i1, .int .i64 e1, .int .i64 t1, .int .i64 d1, .string p1, .string n1, .string v1, .bool f1] 24) (.cells #[.int .u8 k2, .int .i64 i2, .int .i64 e2, .int .i64 t2, .int .i64 d2, .string p2, .string n2, .string v2, .bool f2] 24))
  refine (HA.out.use T1.out.h).mono ?_
  rintro e w2 ⟨rfl, b2⟩
  have T2 := Lib.hid (T1.out.next b2)
  clear b2
  obtain ⟨a0, a1, a2, a3, a4, a5, a6, a7, a8⟩ := zcells T2.out.a
  obtain ⟨b0, b1, b2, b3, b4, b5, b6, b7, b8⟩ := zcells T2.out.b
  go_wp2_with fail
  refine (HL1.out _).mono ?_
  rintro e w3 ⟨rfl, b3⟩
  have T3 := Lib.hid (T2.out.next b3)
  clear a0 a1 a2 a3 a4 a5 a6 a7 a8 b0 b1 b2 b3 b4 b5 b6 b7 b8
  clear b3
  obtain ⟨a0, a1, a2, a3, a4, a5, a6, a7, a8⟩ := zcells T3.out.a
  obtain ⟨b0, b1, b2, b3, b4, b5, b6, b7, b8⟩ := zcells T3.out.b
  go_wp2_with fail
  refine (HL2.out _).mono ?_
  rintro e w4 ⟨rfl, b4⟩
  have T4 := Lib.hid (T3.out.next b4)
  clear a0 a1 a2 a3 a4 a5 a6 a7 a8 b0 b1 b2 b3 b4 b5 b6 b7 b8
  clear b4
  obtain ⟨a0, a1, a2, a3, a4, a5, a6, a7, a8⟩ := zcells T4.out.a
  obtain ⟨b0, b1, b2, b3, b4, b5, b6, b7, b8⟩ := zcells T4.out.b
  go_wp2_with fail
  go_ret
  exact ⟨rfl, T4.out.h⟩

set_option maxHeartbeats 8000000 in
set_option maxRecDepth 100000 in
theorem words_yyy (k1 i1 e1 t1 d1 k2 i2 e2 t2 d2 : Int) (p1 n1 v1 p2 n2 v2 : ByteArray) (f1 f2 : Bool) (s : ByteArray) (w : World) (ta : ByteArray) (tb : ByteArray) (k3 i3 e3 t3 d3 : Int) (p3 n3 v3 : ByteArray) (f3 : Bool)  (HA : Hid (Ct w 14 #[] (.bool true)))
    (HL1 : Hid (∀ W, Calls Tryz.prog 9 #[.agg #[.int .u8 k1, .int .i64 i1, .int .i64 e1, .int .i64 t1, .int .i64 d1, .string p1, .string n1, .string v1, .bool f1]] W (BelB W false)))
    (HL2 : Hid (∀ W, Calls Tryz.prog 9 #[.agg #[.int .u8 k2, .int .i64 i2, .int .i64 e2, .int .i64 t2, .int .i64 d2, .string p2, .string n2, .string v2, .bool f2]] W (BelB W false)))
    (gs : decide ((3000 : Int) < (s.size : Int)) = false)
    (HT1 : Hid (Ct w 10 #[.agg #[.int .u8 k1, .int .i64 i1, .int .i64 e1, .int .i64 t1, .int .i64 d1, .string p1, .string n1, .string v1, .bool f1]] (.tuple #[.string ta, .int .i64 0])))
    (HT2 : Hid (Ct w 10 #[.agg #[.int .u8 k2, .int .i64 i2, .int .i64 e2, .int .i64 t2, .int .i64 d2, .string p2, .string n2, .string v2, .bool f2]] (.tuple #[.string tb, .int .i64 0])))
    (HC1 : Hid (Ct w 16 #[.agg #[.int .u8 k1, .int .i64 i1, .int .i64 e1, .int .i64 t1, .int .i64 d1, .string p1, .string n1, .string v1, .bool f1]] (.int .i64 0)))
    (HP1 : Hid (Ct w 12 #[.string ta] (.tuple #[.agg #[.int .u8 k1, .int .i64 i1, .int .i64 e1, .int .i64 t1, .int .i64 d1, .string p1, .string n1, .string v1, .bool f1], .int .i64 0])))
    (qk qi qe qt qd qp qn qv qf : Bool) (gk : (k1 == k2) = qk) (gi : (i1 == i2) = qi) (ge : (e1 == e2) = qe) (gt : (t1 == t2) = qt) (gd : (d1 == d2) = qd) (gp : (p1.toList == p2.toList) = qp) (gn : (n1.toList == n2.toList) = qn) (gv : (v1.toList == v2.toList) = qv) (gf : (f1 == f2) = qf)
    (HQ : Hid ((ta.toList == tb.toList) = (qk && (qi && (qe && (qt && (qd && (qp && (qn && (qv && qf))))))))))
    (HPS : Hid (Ct w 12 #[.string s] (.tuple #[.agg #[.int .u8 k3, .int .i64 i3, .int .i64 e3, .int .i64 t3, .int .i64 d3, .string p3, .string n3, .string v3, .bool f3], .int .i64 0])))
    (HT3 : Hid (Ct w 10 #[.agg #[.int .u8 k3, .int .i64 i3, .int .i64 e3, .int .i64 t3, .int .i64 d3, .string p3, .string n3, .string v3, .bool f3]] (.tuple #[.string s, .int .i64 0])))
    (HC3 : Hid (Ct w 16 #[.agg #[.int .u8 k3, .int .i64 i3, .int .i64 e3, .int .i64 t3, .int .i64 d3, .string p3, .string n3, .string v3, .bool f3]] (.int .i64 0))) :
    Calls Tryz.prog 5 #[.agg #[.int .u8 k1, .int .i64 i1, .int .i64 e1, .int .i64 t1, .int .i64 d1, .string p1, .string n1, .string v1, .bool f1], .agg #[.int .u8 k2, .int .i64 i2, .int .i64 e2, .int .i64 t2, .int .i64 d2, .string p2, .string n2, .string v2, .bool f2], .string s] w (BelB w true) := by
  go_enter Tryz.func5, Tryz.ntmps5
  go_wp2_with fail
  have T1 := Lib.hid (Two.start w (.cells #[.int .u8 k1, .int .i64 i1, .int .i64 e1, .int .i64 t1, .int .i64 d1, .string p1, .string n1, .string v1, .bool f1] 24) (.cells #[.int .u8 k2, .int .i64 i2, .int .i64 e2, .int .i64 t2, .int .i64 d2, .string p2, .string n2, .string v2, .bool f2] 24))
  refine (HA.out.use T1.out.h).mono ?_
  rintro e w2 ⟨rfl, b2⟩
  have T2 := Lib.hid (T1.out.next b2)
  clear b2
  obtain ⟨a0, a1, a2, a3, a4, a5, a6, a7, a8⟩ := zcells T2.out.a
  obtain ⟨b0, b1, b2, b3, b4, b5, b6, b7, b8⟩ := zcells T2.out.b
  go_wp2_with fail
  refine (HL1.out _).mono ?_
  rintro e w3 ⟨rfl, b3⟩
  have T3 := Lib.hid (T2.out.next b3)
  clear a0 a1 a2 a3 a4 a5 a6 a7 a8 b0 b1 b2 b3 b4 b5 b6 b7 b8
  clear b3
  obtain ⟨a0, a1, a2, a3, a4, a5, a6, a7, a8⟩ := zcells T3.out.a
  obtain ⟨b0, b1, b2, b3, b4, b5, b6, b7, b8⟩ := zcells T3.out.b
  go_wp2_with fail
  refine (HL2.out _).mono ?_
  rintro e w4 ⟨rfl, b4⟩
  have T4 := Lib.hid (T3.out.next b4)
  clear a0 a1 a2 a3 a4 a5 a6 a7 a8 b0 b1 b2 b3 b4 b5 b6 b7 b8
  clear b4
  obtain ⟨a0, a1, a2, a3, a4, a5, a6, a7, a8⟩ := zcells T4.out.a
  obtain ⟨b0, b1, b2, b3, b4, b5, b6, b7, b8⟩ := zcells T4.out.b
  go_wp2_with fail
  refine (HT1.out.use T4.out.h).mono ?_
  rintro e w5 ⟨rfl, b5⟩
  have T5 := Lib.hid (T4.out.next b5)
  clear a0 a1 a2 a3 a4 a5 a6 a7 a8 b0 b1 b2 b3 b4 b5 b6 b7 b8
  clear b5
  obtain ⟨a0, a1, a2, a3, a4, a5, a6, a7, a8⟩ := zcells T5.out.a
  obtain ⟨b0, b1, b2, b3, b4, b5, b6, b7, b8⟩ := zcells T5.out.b
  go_wp2_with fail
  refine (HT2.out.use T5.out.h).mono ?_
  rintro e w6 ⟨rfl, b6⟩
  have T6 := Lib.hid (T5.out.next b6)
  clear a0 a1 a2 a3 a4 a5 a6 a7 a8 b0 b1 b2 b3 b4 b5 b6 b7 b8
  clear b6
  obtain ⟨a0, a1, a2, a3, a4, a5, a6, a7, a8⟩ := zcells T6.out.a
  obtain ⟨b0, b1, b2, b3, b4, b5, b6, b7, b8⟩ := zcells T6.out.b
  go_upto_region 6 with (fail)
  go_cut [67] (fun s67 wx => s67 = .bool false ∧ Two w wx (.cells #[.int .u8 k1, .int .i64 i1, .int .i64 e1, .int .i64 t1, .int .i64 d1, .string p1, .string n1, .string v1, .bool f1] 24) (.cells #[.int .u8 k2, .int .i64 i2, .int .i64 e2, .int .i64 t2, .int .i64 d2, .string p2, .string n2, .string v2, .bool f2] 24))
  case first =>
    go_wp2_with fail
    refine (HC1.out.use T6.out.h).mono ?_
    rintro e w7 ⟨rfl, b7⟩
    have T7 := Lib.hid (T6.out.next b7)
    clear a0 a1 a2 a3 a4 a5 a6 a7 a8 b0 b1 b2 b3 b4 b5 b6 b7 b8
    clear b7
    obtain ⟨a0, a1, a2, a3, a4, a5, a6, a7, a8⟩ := zcells T7.out.a
    obtain ⟨b0, b1, b2, b3, b4, b5, b6, b7, b8⟩ := zcells T7.out.b
    cases qk with
    | false =>
      have z : (ta.toList == tb.toList) = false := HQ.out
      go_wp2_with fail
      go_meet
      exact ⟨rfl, T7.out⟩
    | true =>
    cases qi with
    | false =>
      have z : (ta.toList == tb.toList) = false := HQ.out
      go_wp2_with fail
      go_meet
      exact ⟨rfl, T7.out⟩
    | true =>
    cases qe with
    | false =>
      have z : (ta.toList == tb.toList) = false := HQ.out
      go_wp2_with fail
      go_meet
      exact ⟨rfl, T7.out⟩
    | true =>
    cases qt with
    | false =>
      have z : (ta.toList == tb.toList) = false := HQ.out
      go_wp2_with fail
      go_meet
      exact ⟨rfl, T7.out⟩
    | true =>
    cases qd with
    | false =>
      have z : (ta.toList == tb.toList) = false := HQ.out
      go_wp2_with fail
      go_meet
      exact ⟨rfl, T7.out⟩
    | true =>
    cases qp with
    | false =>
      have z : (ta.toList == tb.toList) = false := HQ.out
      go_wp2_with fail
      go_meet
      exact ⟨rfl, T7.out⟩
    | true =>
    cases qn with
    | false =>
      have z : (ta.toList == tb.toList) = false := HQ.out
      go_wp2_with fail
      go_meet
      exact ⟨rfl, T7.out⟩
    | true =>
    cases qv with
    | false =>
      have z : (ta.toList == tb.toList) = false := HQ.out
      go_wp2_with fail
      go_meet
      exact ⟨rfl, T7.out⟩
    | true =>
    cases qf with
    | false =>
      have z : (ta.toList == tb.toList) = false := HQ.out
      go_wp2_with fail
      go_meet
      exact ⟨rfl, T7.out⟩
    | true =>
    have z : (ta.toList == tb.toList) = true := HQ.out
    go_wp2_with fail
    go_meet
    exact ⟨rfl, T7.out⟩
  case rest =>
  obtain ⟨rfl, t9⟩ := hcut
  have T20 := Lib.hid t9
  clear a0 a1 a2 a3 a4 a5 a6 a7 a8 b0 b1 b2 b3 b4 b5 b6 b7 b8
  clear t9
  obtain ⟨a0, a1, a2, a3, a4, a5, a6, a7, a8⟩ := zcells T20.out.a
  obtain ⟨b0, b1, b2, b3, b4, b5, b6, b7, b8⟩ := zcells T20.out.b
  go_wp2_with fail
  refine (HP1.out.use T20.out.h).mono ?_
  rintro e w21 ⟨rfl, b21⟩
  have T21 := Lib.hid (T20.out.next b21)
  clear a0 a1 a2 a3 a4 a5 a6 a7 a8 b0 b1 b2 b3 b4 b5 b6 b7 b8
  clear b21
  obtain ⟨a0, a1, a2, a3, a4, a5, a6, a7, a8⟩ := zcells T21.out.a
  obtain ⟨b0, b1, b2, b3, b4, b5, b6, b7, b8⟩ := zcells T21.out.b
  have hs1 := objLt T21.out.a
  have hs2 := objLt T21.out.b
  have T22 := Lib.hid (T21.out.alloc (.cells #[.int .u8 k1, .int .i64 i1, .int .i64 e1, .int .i64 t1, .int .i64 d1, .string p1, .string n1, .string v1, .bool f1] 24))
  go_wp2_with fail
  refine (HPS.out.use T22.out.h).mono ?_
  rintro e w23 ⟨rfl, b23⟩
  have T23 := Lib.hid (T22.out.next b23)
  clear a0 a1 a2 a3 a4 a5 a6 a7 a8 b0 b1 b2 b3 b4 b5 b6 b7 b8
  clear b23 hs1 hs2
  have T24 := Lib.hid (T23.out.alloc (.cells #[.int .u8 k3, .int .i64 i3, .int .i64 e3, .int .i64 t3, .int .i64 d3, .string p3, .string n3, .string v3, .bool f3] 24))
  go_wp2_with fail
  refine (HT3.out.use T24.out.h).mono ?_
  rintro e w25 ⟨rfl, b25⟩
  have T25 := Lib.hid (T24.out.next b25)
  have o25 := objNext (B := 0) ⟨Nat.zero_le _, objHere _ _⟩ b25
  obtain ⟨c0, c1, c2, c3, c4, c5, c6, c7, c8⟩ := zcells o25.2
  clear b25 o25
  go_wp2_with fail
  refine (HC3.out.use T25.out.h).mono ?_
  rintro e w26 ⟨rfl, b26⟩
  have T26 := Lib.hid (T25.out.next b26)
  clear b26
  go_wp2_with fail
  go_ret
  exact ⟨rfl, T26.out.h⟩

set_option maxHeartbeats 8000000 in
set_option maxRecDepth 100000 in
theorem words_yyn (k1 i1 e1 t1 d1 k2 i2 e2 t2 d2 : Int) (p1 n1 v1 p2 n2 v2 : ByteArray) (f1 f2 : Bool) (s : ByteArray) (w : World) (ta : ByteArray) (tb : ByteArray)  (HA : Hid (Ct w 14 #[] (.bool true)))
    (HL1 : Hid (∀ W, Calls Tryz.prog 9 #[.agg #[.int .u8 k1, .int .i64 i1, .int .i64 e1, .int .i64 t1, .int .i64 d1, .string p1, .string n1, .string v1, .bool f1]] W (BelB W false)))
    (HL2 : Hid (∀ W, Calls Tryz.prog 9 #[.agg #[.int .u8 k2, .int .i64 i2, .int .i64 e2, .int .i64 t2, .int .i64 d2, .string p2, .string n2, .string v2, .bool f2]] W (BelB W false)))
    (gs : decide ((3000 : Int) < (s.size : Int)) = false)
    (HT1 : Hid (Ct w 10 #[.agg #[.int .u8 k1, .int .i64 i1, .int .i64 e1, .int .i64 t1, .int .i64 d1, .string p1, .string n1, .string v1, .bool f1]] (.tuple #[.string ta, .int .i64 0])))
    (HT2 : Hid (Ct w 10 #[.agg #[.int .u8 k2, .int .i64 i2, .int .i64 e2, .int .i64 t2, .int .i64 d2, .string p2, .string n2, .string v2, .bool f2]] (.tuple #[.string tb, .int .i64 0])))
    (HC1 : Hid (Ct w 16 #[.agg #[.int .u8 k1, .int .i64 i1, .int .i64 e1, .int .i64 t1, .int .i64 d1, .string p1, .string n1, .string v1, .bool f1]] (.int .i64 0)))
    (HP1 : Hid (Ct w 12 #[.string ta] (.tuple #[.agg #[.int .u8 k1, .int .i64 i1, .int .i64 e1, .int .i64 t1, .int .i64 d1, .string p1, .string n1, .string v1, .bool f1], .int .i64 0])))
    (qk qi qe qt qd qp qn qv qf : Bool) (gk : (k1 == k2) = qk) (gi : (i1 == i2) = qi) (ge : (e1 == e2) = qe) (gt : (t1 == t2) = qt) (gd : (d1 == d2) = qd) (gp : (p1.toList == p2.toList) = qp) (gn : (n1.toList == n2.toList) = qn) (gv : (v1.toList == v2.toList) = qv) (gf : (f1 == f2) = qf)
    (HQ : Hid ((ta.toList == tb.toList) = (qk && (qi && (qe && (qt && (qd && (qp && (qn && (qv && qf))))))))))
    (HPS : Hid (Ct w 12 #[.string s] (.tuple #[.agg #[.int .u8 0, .int .i64 0, .int .i64 0, .int .i64 0, .int .i64 0, .string ⟨#[]⟩, .string ⟨#[]⟩, .string ⟨#[]⟩, .bool false], .int .i64 12]))) :
    Calls Tryz.prog 5 #[.agg #[.int .u8 k1, .int .i64 i1, .int .i64 e1, .int .i64 t1, .int .i64 d1, .string p1, .string n1, .string v1, .bool f1], .agg #[.int .u8 k2, .int .i64 i2, .int .i64 e2, .int .i64 t2, .int .i64 d2, .string p2, .string n2, .string v2, .bool f2], .string s] w (BelB w true) := by
  go_enter Tryz.func5, Tryz.ntmps5
  go_wp2_with fail
  have T1 := Lib.hid (Two.start w (.cells #[.int .u8 k1, .int .i64 i1, .int .i64 e1, .int .i64 t1, .int .i64 d1, .string p1, .string n1, .string v1, .bool f1] 24) (.cells #[.int .u8 k2, .int .i64 i2, .int .i64 e2, .int .i64 t2, .int .i64 d2, .string p2, .string n2, .string v2, .bool f2] 24))
  refine (HA.out.use T1.out.h).mono ?_
  rintro e w2 ⟨rfl, b2⟩
  have T2 := Lib.hid (T1.out.next b2)
  clear b2
  obtain ⟨a0, a1, a2, a3, a4, a5, a6, a7, a8⟩ := zcells T2.out.a
  obtain ⟨b0, b1, b2, b3, b4, b5, b6, b7, b8⟩ := zcells T2.out.b
  go_wp2_with fail
  refine (HL1.out _).mono ?_
  rintro e w3 ⟨rfl, b3⟩
  have T3 := Lib.hid (T2.out.next b3)
  clear a0 a1 a2 a3 a4 a5 a6 a7 a8 b0 b1 b2 b3 b4 b5 b6 b7 b8
  clear b3
  obtain ⟨a0, a1, a2, a3, a4, a5, a6, a7, a8⟩ := zcells T3.out.a
  obtain ⟨b0, b1, b2, b3, b4, b5, b6, b7, b8⟩ := zcells T3.out.b
  go_wp2_with fail
  refine (HL2.out _).mono ?_
  rintro e w4 ⟨rfl, b4⟩
  have T4 := Lib.hid (T3.out.next b4)
  clear a0 a1 a2 a3 a4 a5 a6 a7 a8 b0 b1 b2 b3 b4 b5 b6 b7 b8
  clear b4
  obtain ⟨a0, a1, a2, a3, a4, a5, a6, a7, a8⟩ := zcells T4.out.a
  obtain ⟨b0, b1, b2, b3, b4, b5, b6, b7, b8⟩ := zcells T4.out.b
  go_wp2_with fail
  refine (HT1.out.use T4.out.h).mono ?_
  rintro e w5 ⟨rfl, b5⟩
  have T5 := Lib.hid (T4.out.next b5)
  clear a0 a1 a2 a3 a4 a5 a6 a7 a8 b0 b1 b2 b3 b4 b5 b6 b7 b8
  clear b5
  obtain ⟨a0, a1, a2, a3, a4, a5, a6, a7, a8⟩ := zcells T5.out.a
  obtain ⟨b0, b1, b2, b3, b4, b5, b6, b7, b8⟩ := zcells T5.out.b
  go_wp2_with fail
  refine (HT2.out.use T5.out.h).mono ?_
  rintro e w6 ⟨rfl, b6⟩
  have T6 := Lib.hid (T5.out.next b6)
  clear a0 a1 a2 a3 a4 a5 a6 a7 a8 b0 b1 b2 b3 b4 b5 b6 b7 b8
  clear b6
  obtain ⟨a0, a1, a2, a3, a4, a5, a6, a7, a8⟩ := zcells T6.out.a
  obtain ⟨b0, b1, b2, b3, b4, b5, b6, b7, b8⟩ := zcells T6.out.b
  go_upto_region 6 with (fail)
  go_cut [67] (fun s67 wx => s67 = .bool false ∧ Two w wx (.cells #[.int .u8 k1, .int .i64 i1, .int .i64 e1, .int .i64 t1, .int .i64 d1, .string p1, .string n1, .string v1, .bool f1] 24) (.cells #[.int .u8 k2, .int .i64 i2, .int .i64 e2, .int .i64 t2, .int .i64 d2, .string p2, .string n2, .string v2, .bool f2] 24))
  case first =>
    go_wp2_with fail
    refine (HC1.out.use T6.out.h).mono ?_
    rintro e w7 ⟨rfl, b7⟩
    have T7 := Lib.hid (T6.out.next b7)
    clear a0 a1 a2 a3 a4 a5 a6 a7 a8 b0 b1 b2 b3 b4 b5 b6 b7 b8
    clear b7
    obtain ⟨a0, a1, a2, a3, a4, a5, a6, a7, a8⟩ := zcells T7.out.a
    obtain ⟨b0, b1, b2, b3, b4, b5, b6, b7, b8⟩ := zcells T7.out.b
    cases qk with
    | false =>
      have z : (ta.toList == tb.toList) = false := HQ.out
      go_wp2_with fail
      go_meet
      exact ⟨rfl, T7.out⟩
    | true =>
    cases qi with
    | false =>
      have z : (ta.toList == tb.toList) = false := HQ.out
      go_wp2_with fail
      go_meet
      exact ⟨rfl, T7.out⟩
    | true =>
    cases qe with
    | false =>
      have z : (ta.toList == tb.toList) = false := HQ.out
      go_wp2_with fail
      go_meet
      exact ⟨rfl, T7.out⟩
    | true =>
    cases qt with
    | false =>
      have z : (ta.toList == tb.toList) = false := HQ.out
      go_wp2_with fail
      go_meet
      exact ⟨rfl, T7.out⟩
    | true =>
    cases qd with
    | false =>
      have z : (ta.toList == tb.toList) = false := HQ.out
      go_wp2_with fail
      go_meet
      exact ⟨rfl, T7.out⟩
    | true =>
    cases qp with
    | false =>
      have z : (ta.toList == tb.toList) = false := HQ.out
      go_wp2_with fail
      go_meet
      exact ⟨rfl, T7.out⟩
    | true =>
    cases qn with
    | false =>
      have z : (ta.toList == tb.toList) = false := HQ.out
      go_wp2_with fail
      go_meet
      exact ⟨rfl, T7.out⟩
    | true =>
    cases qv with
    | false =>
      have z : (ta.toList == tb.toList) = false := HQ.out
      go_wp2_with fail
      go_meet
      exact ⟨rfl, T7.out⟩
    | true =>
    cases qf with
    | false =>
      have z : (ta.toList == tb.toList) = false := HQ.out
      go_wp2_with fail
      go_meet
      exact ⟨rfl, T7.out⟩
    | true =>
    have z : (ta.toList == tb.toList) = true := HQ.out
    go_wp2_with fail
    go_meet
    exact ⟨rfl, T7.out⟩
  case rest =>
  obtain ⟨rfl, t9⟩ := hcut
  have T20 := Lib.hid t9
  clear a0 a1 a2 a3 a4 a5 a6 a7 a8 b0 b1 b2 b3 b4 b5 b6 b7 b8
  clear t9
  obtain ⟨a0, a1, a2, a3, a4, a5, a6, a7, a8⟩ := zcells T20.out.a
  obtain ⟨b0, b1, b2, b3, b4, b5, b6, b7, b8⟩ := zcells T20.out.b
  go_wp2_with fail
  refine (HP1.out.use T20.out.h).mono ?_
  rintro e w21 ⟨rfl, b21⟩
  have T21 := Lib.hid (T20.out.next b21)
  clear a0 a1 a2 a3 a4 a5 a6 a7 a8 b0 b1 b2 b3 b4 b5 b6 b7 b8
  clear b21
  obtain ⟨a0, a1, a2, a3, a4, a5, a6, a7, a8⟩ := zcells T21.out.a
  obtain ⟨b0, b1, b2, b3, b4, b5, b6, b7, b8⟩ := zcells T21.out.b
  have hs1 := objLt T21.out.a
  have hs2 := objLt T21.out.b
  have T22 := Lib.hid (T21.out.alloc (.cells #[.int .u8 k1, .int .i64 i1, .int .i64 e1, .int .i64 t1, .int .i64 d1, .string p1, .string n1, .string v1, .bool f1] 24))
  go_wp2_with fail
  refine (HPS.out.use T22.out.h).mono ?_
  rintro e w23 ⟨rfl, b23⟩
  have T23 := Lib.hid (T22.out.next b23)
  clear a0 a1 a2 a3 a4 a5 a6 a7 a8 b0 b1 b2 b3 b4 b5 b6 b7 b8
  clear b23 hs1 hs2
  have T24 := Lib.hid (T23.out.alloc (.cells #[.int .u8 0, .int .i64 0, .int .i64 0, .int .i64 0, .int .i64 0, .string ⟨#[]⟩, .string ⟨#[]⟩, .string ⟨#[]⟩, .bool false] 24))
  go_wp2_with fail
  go_ret
  exact ⟨rfl, T24.out.h⟩

set_option maxHeartbeats 8000000 in
set_option maxRecDepth 100000 in
theorem words_yny (k1 i1 e1 t1 d1 k2 i2 e2 t2 d2 : Int) (p1 n1 v1 p2 n2 v2 : ByteArray) (f1 f2 : Bool) (s : ByteArray) (w : World) (ta : ByteArray) (k3 i3 e3 t3 d3 : Int) (p3 n3 v3 : ByteArray) (f3 : Bool)  (HA : Hid (Ct w 14 #[] (.bool true)))
    (HL1 : Hid (∀ W, Calls Tryz.prog 9 #[.agg #[.int .u8 k1, .int .i64 i1, .int .i64 e1, .int .i64 t1, .int .i64 d1, .string p1, .string n1, .string v1, .bool f1]] W (BelB W false)))
    (HL2 : Hid (∀ W, Calls Tryz.prog 9 #[.agg #[.int .u8 k2, .int .i64 i2, .int .i64 e2, .int .i64 t2, .int .i64 d2, .string p2, .string n2, .string v2, .bool f2]] W (BelB W false)))
    (gs : decide ((3000 : Int) < (s.size : Int)) = false)
    (HT1 : Hid (Ct w 10 #[.agg #[.int .u8 k1, .int .i64 i1, .int .i64 e1, .int .i64 t1, .int .i64 d1, .string p1, .string n1, .string v1, .bool f1]] (.tuple #[.string ta, .int .i64 0])))
    (HT2 : Hid (Ct w 10 #[.agg #[.int .u8 k2, .int .i64 i2, .int .i64 e2, .int .i64 t2, .int .i64 d2, .string p2, .string n2, .string v2, .bool f2]] (.tuple #[.string ⟨#[]⟩, .int .i64 8])))
    (HC1 : Hid (Ct w 16 #[.agg #[.int .u8 k1, .int .i64 i1, .int .i64 e1, .int .i64 t1, .int .i64 d1, .string p1, .string n1, .string v1, .bool f1]] (.int .i64 0)))
    (HP1 : Hid (Ct w 12 #[.string ta] (.tuple #[.agg #[.int .u8 k1, .int .i64 i1, .int .i64 e1, .int .i64 t1, .int .i64 d1, .string p1, .string n1, .string v1, .bool f1], .int .i64 0])))
    (HPS : Hid (Ct w 12 #[.string s] (.tuple #[.agg #[.int .u8 k3, .int .i64 i3, .int .i64 e3, .int .i64 t3, .int .i64 d3, .string p3, .string n3, .string v3, .bool f3], .int .i64 0])))
    (HT3 : Hid (Ct w 10 #[.agg #[.int .u8 k3, .int .i64 i3, .int .i64 e3, .int .i64 t3, .int .i64 d3, .string p3, .string n3, .string v3, .bool f3]] (.tuple #[.string s, .int .i64 0])))
    (HC3 : Hid (Ct w 16 #[.agg #[.int .u8 k3, .int .i64 i3, .int .i64 e3, .int .i64 t3, .int .i64 d3, .string p3, .string n3, .string v3, .bool f3]] (.int .i64 0))) :
    Calls Tryz.prog 5 #[.agg #[.int .u8 k1, .int .i64 i1, .int .i64 e1, .int .i64 t1, .int .i64 d1, .string p1, .string n1, .string v1, .bool f1], .agg #[.int .u8 k2, .int .i64 i2, .int .i64 e2, .int .i64 t2, .int .i64 d2, .string p2, .string n2, .string v2, .bool f2], .string s] w (BelB w true) := by
  go_enter Tryz.func5, Tryz.ntmps5
  go_wp2_with fail
  have T1 := Lib.hid (Two.start w (.cells #[.int .u8 k1, .int .i64 i1, .int .i64 e1, .int .i64 t1, .int .i64 d1, .string p1, .string n1, .string v1, .bool f1] 24) (.cells #[.int .u8 k2, .int .i64 i2, .int .i64 e2, .int .i64 t2, .int .i64 d2, .string p2, .string n2, .string v2, .bool f2] 24))
  refine (HA.out.use T1.out.h).mono ?_
  rintro e w2 ⟨rfl, b2⟩
  have T2 := Lib.hid (T1.out.next b2)
  clear b2
  obtain ⟨a0, a1, a2, a3, a4, a5, a6, a7, a8⟩ := zcells T2.out.a
  obtain ⟨b0, b1, b2, b3, b4, b5, b6, b7, b8⟩ := zcells T2.out.b
  go_wp2_with fail
  refine (HL1.out _).mono ?_
  rintro e w3 ⟨rfl, b3⟩
  have T3 := Lib.hid (T2.out.next b3)
  clear a0 a1 a2 a3 a4 a5 a6 a7 a8 b0 b1 b2 b3 b4 b5 b6 b7 b8
  clear b3
  obtain ⟨a0, a1, a2, a3, a4, a5, a6, a7, a8⟩ := zcells T3.out.a
  obtain ⟨b0, b1, b2, b3, b4, b5, b6, b7, b8⟩ := zcells T3.out.b
  go_wp2_with fail
  refine (HL2.out _).mono ?_
  rintro e w4 ⟨rfl, b4⟩
  have T4 := Lib.hid (T3.out.next b4)
  clear a0 a1 a2 a3 a4 a5 a6 a7 a8 b0 b1 b2 b3 b4 b5 b6 b7 b8
  clear b4
  obtain ⟨a0, a1, a2, a3, a4, a5, a6, a7, a8⟩ := zcells T4.out.a
  obtain ⟨b0, b1, b2, b3, b4, b5, b6, b7, b8⟩ := zcells T4.out.b
  go_wp2_with fail
  refine (HT1.out.use T4.out.h).mono ?_
  rintro e w5 ⟨rfl, b5⟩
  have T5 := Lib.hid (T4.out.next b5)
  clear a0 a1 a2 a3 a4 a5 a6 a7 a8 b0 b1 b2 b3 b4 b5 b6 b7 b8
  clear b5
  obtain ⟨a0, a1, a2, a3, a4, a5, a6, a7, a8⟩ := zcells T5.out.a
  obtain ⟨b0, b1, b2, b3, b4, b5, b6, b7, b8⟩ := zcells T5.out.b
  go_wp2_with fail
  refine (HT2.out.use T5.out.h).mono ?_
  rintro e w6 ⟨rfl, b6⟩
  have T6 := Lib.hid (T5.out.next b6)
  clear a0 a1 a2 a3 a4 a5 a6 a7 a8 b0 b1 b2 b3 b4 b5 b6 b7 b8
  clear b6
  obtain ⟨a0, a1, a2, a3, a4, a5, a6, a7, a8⟩ := zcells T6.out.a
  obtain ⟨b0, b1, b2, b3, b4, b5, b6, b7, b8⟩ := zcells T6.out.b
  go_upto_region 6 with (fail)
  go_cut [67] (fun s67 wx => s67 = .bool false ∧ Two w wx (.cells #[.int .u8 k1, .int .i64 i1, .int .i64 e1, .int .i64 t1, .int .i64 d1, .string p1, .string n1, .string v1, .bool f1] 24) (.cells #[.int .u8 k2, .int .i64 i2, .int .i64 e2, .int .i64 t2, .int .i64 d2, .string p2, .string n2, .string v2, .bool f2] 24))
  case first =>
    go_wp2_with fail
    refine (HC1.out.use T6.out.h).mono ?_
    rintro e w7 ⟨rfl, b7⟩
    have T7 := Lib.hid (T6.out.next b7)
    clear a0 a1 a2 a3 a4 a5 a6 a7 a8 b0 b1 b2 b3 b4 b5 b6 b7 b8
    clear b7
    obtain ⟨a0, a1, a2, a3, a4, a5, a6, a7, a8⟩ := zcells T7.out.a
    obtain ⟨b0, b1, b2, b3, b4, b5, b6, b7, b8⟩ := zcells T7.out.b
    go_wp2_with fail
    go_meet
    exact ⟨rfl, T7.out⟩
  case rest =>
  obtain ⟨rfl, t9⟩ := hcut
  have T20 := Lib.hid t9
  clear a0 a1 a2 a3 a4 a5 a6 a7 a8 b0 b1 b2 b3 b4 b5 b6 b7 b8
  clear t9
  obtain ⟨a0, a1, a2, a3, a4, a5, a6, a7, a8⟩ := zcells T20.out.a
  obtain ⟨b0, b1, b2, b3, b4, b5, b6, b7, b8⟩ := zcells T20.out.b
  go_wp2_with fail
  refine (HP1.out.use T20.out.h).mono ?_
  rintro e w21 ⟨rfl, b21⟩
  have T21 := Lib.hid (T20.out.next b21)
  clear a0 a1 a2 a3 a4 a5 a6 a7 a8 b0 b1 b2 b3 b4 b5 b6 b7 b8
  clear b21
  obtain ⟨a0, a1, a2, a3, a4, a5, a6, a7, a8⟩ := zcells T21.out.a
  obtain ⟨b0, b1, b2, b3, b4, b5, b6, b7, b8⟩ := zcells T21.out.b
  have hs1 := objLt T21.out.a
  have hs2 := objLt T21.out.b
  have T22 := Lib.hid (T21.out.alloc (.cells #[.int .u8 k1, .int .i64 i1, .int .i64 e1, .int .i64 t1, .int .i64 d1, .string p1, .string n1, .string v1, .bool f1] 24))
  go_wp2_with fail
  refine (HPS.out.use T22.out.h).mono ?_
  rintro e w23 ⟨rfl, b23⟩
  have T23 := Lib.hid (T22.out.next b23)
  clear a0 a1 a2 a3 a4 a5 a6 a7 a8 b0 b1 b2 b3 b4 b5 b6 b7 b8
  clear b23 hs1 hs2
  have T24 := Lib.hid (T23.out.alloc (.cells #[.int .u8 k3, .int .i64 i3, .int .i64 e3, .int .i64 t3, .int .i64 d3, .string p3, .string n3, .string v3, .bool f3] 24))
  go_wp2_with fail
  refine (HT3.out.use T24.out.h).mono ?_
  rintro e w25 ⟨rfl, b25⟩
  have T25 := Lib.hid (T24.out.next b25)
  have o25 := objNext (B := 0) ⟨Nat.zero_le _, objHere _ _⟩ b25
  obtain ⟨c0, c1, c2, c3, c4, c5, c6, c7, c8⟩ := zcells o25.2
  clear b25 o25
  go_wp2_with fail
  refine (HC3.out.use T25.out.h).mono ?_
  rintro e w26 ⟨rfl, b26⟩
  have T26 := Lib.hid (T25.out.next b26)
  clear b26
  go_wp2_with fail
  go_ret
  exact ⟨rfl, T26.out.h⟩

set_option maxHeartbeats 8000000 in
set_option maxRecDepth 100000 in
theorem words_ynn (k1 i1 e1 t1 d1 k2 i2 e2 t2 d2 : Int) (p1 n1 v1 p2 n2 v2 : ByteArray) (f1 f2 : Bool) (s : ByteArray) (w : World) (ta : ByteArray)  (HA : Hid (Ct w 14 #[] (.bool true)))
    (HL1 : Hid (∀ W, Calls Tryz.prog 9 #[.agg #[.int .u8 k1, .int .i64 i1, .int .i64 e1, .int .i64 t1, .int .i64 d1, .string p1, .string n1, .string v1, .bool f1]] W (BelB W false)))
    (HL2 : Hid (∀ W, Calls Tryz.prog 9 #[.agg #[.int .u8 k2, .int .i64 i2, .int .i64 e2, .int .i64 t2, .int .i64 d2, .string p2, .string n2, .string v2, .bool f2]] W (BelB W false)))
    (gs : decide ((3000 : Int) < (s.size : Int)) = false)
    (HT1 : Hid (Ct w 10 #[.agg #[.int .u8 k1, .int .i64 i1, .int .i64 e1, .int .i64 t1, .int .i64 d1, .string p1, .string n1, .string v1, .bool f1]] (.tuple #[.string ta, .int .i64 0])))
    (HT2 : Hid (Ct w 10 #[.agg #[.int .u8 k2, .int .i64 i2, .int .i64 e2, .int .i64 t2, .int .i64 d2, .string p2, .string n2, .string v2, .bool f2]] (.tuple #[.string ⟨#[]⟩, .int .i64 8])))
    (HC1 : Hid (Ct w 16 #[.agg #[.int .u8 k1, .int .i64 i1, .int .i64 e1, .int .i64 t1, .int .i64 d1, .string p1, .string n1, .string v1, .bool f1]] (.int .i64 0)))
    (HP1 : Hid (Ct w 12 #[.string ta] (.tuple #[.agg #[.int .u8 k1, .int .i64 i1, .int .i64 e1, .int .i64 t1, .int .i64 d1, .string p1, .string n1, .string v1, .bool f1], .int .i64 0])))
    (HPS : Hid (Ct w 12 #[.string s] (.tuple #[.agg #[.int .u8 0, .int .i64 0, .int .i64 0, .int .i64 0, .int .i64 0, .string ⟨#[]⟩, .string ⟨#[]⟩, .string ⟨#[]⟩, .bool false], .int .i64 12]))) :
    Calls Tryz.prog 5 #[.agg #[.int .u8 k1, .int .i64 i1, .int .i64 e1, .int .i64 t1, .int .i64 d1, .string p1, .string n1, .string v1, .bool f1], .agg #[.int .u8 k2, .int .i64 i2, .int .i64 e2, .int .i64 t2, .int .i64 d2, .string p2, .string n2, .string v2, .bool f2], .string s] w (BelB w true) := by
  go_enter Tryz.func5, Tryz.ntmps5
  go_wp2_with fail
  have T1 := Lib.hid (Two.start w (.cells #[.int .u8 k1, .int .i64 i1, .int .i64 e1, .int .i64 t1, .int .i64 d1, .string p1, .string n1, .string v1, .bool f1] 24) (.cells #[.int .u8 k2, .int .i64 i2, .int .i64 e2, .int .i64 t2, .int .i64 d2, .string p2, .string n2, .string v2, .bool f2] 24))
  refine (HA.out.use T1.out.h).mono ?_
  rintro e w2 ⟨rfl, b2⟩
  have T2 := Lib.hid (T1.out.next b2)
  clear b2
  obtain ⟨a0, a1, a2, a3, a4, a5, a6, a7, a8⟩ := zcells T2.out.a
  obtain ⟨b0, b1, b2, b3, b4, b5, b6, b7, b8⟩ := zcells T2.out.b
  go_wp2_with fail
  refine (HL1.out _).mono ?_
  rintro e w3 ⟨rfl, b3⟩
  have T3 := Lib.hid (T2.out.next b3)
  clear a0 a1 a2 a3 a4 a5 a6 a7 a8 b0 b1 b2 b3 b4 b5 b6 b7 b8
  clear b3
  obtain ⟨a0, a1, a2, a3, a4, a5, a6, a7, a8⟩ := zcells T3.out.a
  obtain ⟨b0, b1, b2, b3, b4, b5, b6, b7, b8⟩ := zcells T3.out.b
  go_wp2_with fail
  refine (HL2.out _).mono ?_
  rintro e w4 ⟨rfl, b4⟩
  have T4 := Lib.hid (T3.out.next b4)
  clear a0 a1 a2 a3 a4 a5 a6 a7 a8 b0 b1 b2 b3 b4 b5 b6 b7 b8
  clear b4
  obtain ⟨a0, a1, a2, a3, a4, a5, a6, a7, a8⟩ := zcells T4.out.a
  obtain ⟨b0, b1, b2, b3, b4, b5, b6, b7, b8⟩ := zcells T4.out.b
  go_wp2_with fail
  refine (HT1.out.use T4.out.h).mono ?_
  rintro e w5 ⟨rfl, b5⟩
  have T5 := Lib.hid (T4.out.next b5)
  clear a0 a1 a2 a3 a4 a5 a6 a7 a8 b0 b1 b2 b3 b4 b5 b6 b7 b8
  clear b5
  obtain ⟨a0, a1, a2, a3, a4, a5, a6, a7, a8⟩ := zcells T5.out.a
  obtain ⟨b0, b1, b2, b3, b4, b5, b6, b7, b8⟩ := zcells T5.out.b
  go_wp2_with fail
  refine (HT2.out.use T5.out.h).mono ?_
  rintro e w6 ⟨rfl, b6⟩
  have T6 := Lib.hid (T5.out.next b6)
  clear a0 a1 a2 a3 a4 a5 a6 a7 a8 b0 b1 b2 b3 b4 b5 b6 b7 b8
  clear b6
  obtain ⟨a0, a1, a2, a3, a4, a5, a6, a7, a8⟩ := zcells T6.out.a
  obtain ⟨b0, b1, b2, b3, b4, b5, b6, b7, b8⟩ := zcells T6.out.b
  go_upto_region 6 with (fail)
  go_cut [67] (fun s67 wx => s67 = .bool false ∧ Two w wx (.cells #[.int .u8 k1, .int .i64 i1, .int .i64 e1, .int .i64 t1, .int .i64 d1, .string p1, .string n1, .string v1, .bool f1] 24) (.cells #[.int .u8 k2, .int .i64 i2, .int .i64 e2, .int .i64 t2, .int .i64 d2, .string p2, .string n2, .string v2, .bool f2] 24))
  case first =>
    go_wp2_with fail
    refine (HC1.out.use T6.out.h).mono ?_
    rintro e w7 ⟨rfl, b7⟩
    have T7 := Lib.hid (T6.out.next b7)
    clear a0 a1 a2 a3 a4 a5 a6 a7 a8 b0 b1 b2 b3 b4 b5 b6 b7 b8
    clear b7
    obtain ⟨a0, a1, a2, a3, a4, a5, a6, a7, a8⟩ := zcells T7.out.a
    obtain ⟨b0, b1, b2, b3, b4, b5, b6, b7, b8⟩ := zcells T7.out.b
    go_wp2_with fail
    go_meet
    exact ⟨rfl, T7.out⟩
  case rest =>
  obtain ⟨rfl, t9⟩ := hcut
  have T20 := Lib.hid t9
  clear a0 a1 a2 a3 a4 a5 a6 a7 a8 b0 b1 b2 b3 b4 b5 b6 b7 b8
  clear t9
  obtain ⟨a0, a1, a2, a3, a4, a5, a6, a7, a8⟩ := zcells T20.out.a
  obtain ⟨b0, b1, b2, b3, b4, b5, b6, b7, b8⟩ := zcells T20.out.b
  go_wp2_with fail
  refine (HP1.out.use T20.out.h).mono ?_
  rintro e w21 ⟨rfl, b21⟩
  have T21 := Lib.hid (T20.out.next b21)
  clear a0 a1 a2 a3 a4 a5 a6 a7 a8 b0 b1 b2 b3 b4 b5 b6 b7 b8
  clear b21
  obtain ⟨a0, a1, a2, a3, a4, a5, a6, a7, a8⟩ := zcells T21.out.a
  obtain ⟨b0, b1, b2, b3, b4, b5, b6, b7, b8⟩ := zcells T21.out.b
  have hs1 := objLt T21.out.a
  have hs2 := objLt T21.out.b
  have T22 := Lib.hid (T21.out.alloc (.cells #[.int .u8 k1, .int .i64 i1, .int .i64 e1, .int .i64 t1, .int .i64 d1, .string p1, .string n1, .string v1, .bool f1] 24))
  go_wp2_with fail
  refine (HPS.out.use T22.out.h).mono ?_
  rintro e w23 ⟨rfl, b23⟩
  have T23 := Lib.hid (T22.out.next b23)
  clear a0 a1 a2 a3 a4 a5 a6 a7 a8 b0 b1 b2 b3 b4 b5 b6 b7 b8
  clear b23 hs1 hs2
  have T24 := Lib.hid (T23.out.alloc (.cells #[.int .u8 0, .int .i64 0, .int .i64 0, .int .i64 0, .int .i64 0, .string ⟨#[]⟩, .string ⟨#[]⟩, .string ⟨#[]⟩, .bool false] 24))
  go_wp2_with fail
  go_ret
  exact ⟨rfl, T24.out.h⟩

set_option maxHeartbeats 8000000 in
set_option maxRecDepth 100000 in
theorem words_nyy (k1 i1 e1 t1 d1 k2 i2 e2 t2 d2 : Int) (p1 n1 v1 p2 n2 v2 : ByteArray) (f1 f2 : Bool) (s : ByteArray) (w : World) (tb : ByteArray) (k3 i3 e3 t3 d3 : Int) (p3 n3 v3 : ByteArray) (f3 : Bool)  (HA : Hid (Ct w 14 #[] (.bool true)))
    (HL1 : Hid (∀ W, Calls Tryz.prog 9 #[.agg #[.int .u8 k1, .int .i64 i1, .int .i64 e1, .int .i64 t1, .int .i64 d1, .string p1, .string n1, .string v1, .bool f1]] W (BelB W false)))
    (HL2 : Hid (∀ W, Calls Tryz.prog 9 #[.agg #[.int .u8 k2, .int .i64 i2, .int .i64 e2, .int .i64 t2, .int .i64 d2, .string p2, .string n2, .string v2, .bool f2]] W (BelB W false)))
    (gs : decide ((3000 : Int) < (s.size : Int)) = false)
    (HT1 : Hid (Ct w 10 #[.agg #[.int .u8 k1, .int .i64 i1, .int .i64 e1, .int .i64 t1, .int .i64 d1, .string p1, .string n1, .string v1, .bool f1]] (.tuple #[.string ⟨#[]⟩, .int .i64 8])))
    (HT2 : Hid (Ct w 10 #[.agg #[.int .u8 k2, .int .i64 i2, .int .i64 e2, .int .i64 t2, .int .i64 d2, .string p2, .string n2, .string v2, .bool f2]] (.tuple #[.string tb, .int .i64 0])))
    (HC1 : Hid (Ct w 16 #[.agg #[.int .u8 k1, .int .i64 i1, .int .i64 e1, .int .i64 t1, .int .i64 d1, .string p1, .string n1, .string v1, .bool f1]] (.int .i64 8)))
    (HPS : Hid (Ct w 12 #[.string s] (.tuple #[.agg #[.int .u8 k3, .int .i64 i3, .int .i64 e3, .int .i64 t3, .int .i64 d3, .string p3, .string n3, .string v3, .bool f3], .int .i64 0])))
    (HT3 : Hid (Ct w 10 #[.agg #[.int .u8 k3, .int .i64 i3, .int .i64 e3, .int .i64 t3, .int .i64 d3, .string p3, .string n3, .string v3, .bool f3]] (.tuple #[.string s, .int .i64 0])))
    (HC3 : Hid (Ct w 16 #[.agg #[.int .u8 k3, .int .i64 i3, .int .i64 e3, .int .i64 t3, .int .i64 d3, .string p3, .string n3, .string v3, .bool f3]] (.int .i64 0))) :
    Calls Tryz.prog 5 #[.agg #[.int .u8 k1, .int .i64 i1, .int .i64 e1, .int .i64 t1, .int .i64 d1, .string p1, .string n1, .string v1, .bool f1], .agg #[.int .u8 k2, .int .i64 i2, .int .i64 e2, .int .i64 t2, .int .i64 d2, .string p2, .string n2, .string v2, .bool f2], .string s] w (BelB w true) := by
  go_enter Tryz.func5, Tryz.ntmps5
  go_wp2_with fail
  have T1 := Lib.hid (Two.start w (.cells #[.int .u8 k1, .int .i64 i1, .int .i64 e1, .int .i64 t1, .int .i64 d1, .string p1, .string n1, .string v1, .bool f1] 24) (.cells #[.int .u8 k2, .int .i64 i2, .int .i64 e2, .int .i64 t2, .int .i64 d2, .string p2, .string n2, .string v2, .bool f2] 24))
  refine (HA.out.use T1.out.h).mono ?_
  rintro e w2 ⟨rfl, b2⟩
  have T2 := Lib.hid (T1.out.next b2)
  clear b2
  obtain ⟨a0, a1, a2, a3, a4, a5, a6, a7, a8⟩ := zcells T2.out.a
  obtain ⟨b0, b1, b2, b3, b4, b5, b6, b7, b8⟩ := zcells T2.out.b
  go_wp2_with fail
  refine (HL1.out _).mono ?_
  rintro e w3 ⟨rfl, b3⟩
  have T3 := Lib.hid (T2.out.next b3)
  clear a0 a1 a2 a3 a4 a5 a6 a7 a8 b0 b1 b2 b3 b4 b5 b6 b7 b8
  clear b3
  obtain ⟨a0, a1, a2, a3, a4, a5, a6, a7, a8⟩ := zcells T3.out.a
  obtain ⟨b0, b1, b2, b3, b4, b5, b6, b7, b8⟩ := zcells T3.out.b
  go_wp2_with fail
  refine (HL2.out _).mono ?_
  rintro e w4 ⟨rfl, b4⟩
  have T4 := Lib.hid (T3.out.next b4)
  clear a0 a1 a2 a3 a4 a5 a6 a7 a8 b0 b1 b2 b3 b4 b5 b6 b7 b8
  clear b4
  obtain ⟨a0, a1, a2, a3, a4, a5, a6, a7, a8⟩ := zcells T4.out.a
  obtain ⟨b0, b1, b2, b3, b4, b5, b6, b7, b8⟩ := zcells T4.out.b
  go_wp2_with fail
  refine (HT1.out.use T4.out.h).mono ?_
  rintro e w5 ⟨rfl, b5⟩
  have T5 := Lib.hid (T4.out.next b5)
  clear a0 a1 a2 a3 a4 a5 a6 a7 a8 b0 b1 b2 b3 b4 b5 b6 b7 b8
  clear b5
  obtain ⟨a0, a1, a2, a3, a4, a5, a6, a7, a8⟩ := zcells T5.out.a
  obtain ⟨b0, b1, b2, b3, b4, b5, b6, b7, b8⟩ := zcells T5.out.b
  go_wp2_with fail
  refine (HT2.out.use T5.out.h).mono ?_
  rintro e w6 ⟨rfl, b6⟩
  have T6 := Lib.hid (T5.out.next b6)
  clear a0 a1 a2 a3 a4 a5 a6 a7 a8 b0 b1 b2 b3 b4 b5 b6 b7 b8
  clear b6
  obtain ⟨a0, a1, a2, a3, a4, a5, a6, a7, a8⟩ := zcells T6.out.a
  obtain ⟨b0, b1, b2, b3, b4, b5, b6, b7, b8⟩ := zcells T6.out.b
  go_upto_region 6 with (fail)
  go_cut [67] (fun s67 wx => s67 = .bool false ∧ Two w wx (.cells #[.int .u8 k1, .int .i64 i1, .int .i64 e1, .int .i64 t1, .int .i64 d1, .string p1, .string n1, .string v1, .bool f1] 24) (.cells #[.int .u8 k2, .int .i64 i2, .int .i64 e2, .int .i64 t2, .int .i64 d2, .string p2, .string n2, .string v2, .bool f2] 24))
  case first =>
    go_wp2_with fail
    refine (HC1.out.use T6.out.h).mono ?_
    rintro e w7 ⟨rfl, b7⟩
    have T7 := Lib.hid (T6.out.next b7)
    clear a0 a1 a2 a3 a4 a5 a6 a7 a8 b0 b1 b2 b3 b4 b5 b6 b7 b8
    clear b7
    obtain ⟨a0, a1, a2, a3, a4, a5, a6, a7, a8⟩ := zcells T7.out.a
    obtain ⟨b0, b1, b2, b3, b4, b5, b6, b7, b8⟩ := zcells T7.out.b
    go_wp2_with fail
    go_meet
    exact ⟨rfl, T7.out⟩
  case rest =>
  obtain ⟨rfl, t9⟩ := hcut
  have T20 := Lib.hid t9
  clear a0 a1 a2 a3 a4 a5 a6 a7 a8 b0 b1 b2 b3 b4 b5 b6 b7 b8
  clear t9
  obtain ⟨a0, a1, a2, a3, a4, a5, a6, a7, a8⟩ := zcells T20.out.a
  obtain ⟨b0, b1, b2, b3, b4, b5, b6, b7, b8⟩ := zcells T20.out.b
  go_wp2_with fail
  refine (HPS.out.use T20.out.h).mono ?_
  rintro e w23 ⟨rfl, b23⟩
  have T23 := Lib.hid (T20.out.next b23)
  clear a0 a1 a2 a3 a4 a5 a6 a7 a8 b0 b1 b2 b3 b4 b5 b6 b7 b8
  clear b23
  have T24 := Lib.hid (T23.out.alloc (.cells #[.int .u8 k3, .int .i64 i3, .int .i64 e3, .int .i64 t3, .int .i64 d3, .string p3, .string n3, .string v3, .bool f3] 24))
  go_wp2_with fail
  refine (HT3.out.use T24.out.h).mono ?_
  rintro e w25 ⟨rfl, b25⟩
  have T25 := Lib.hid (T24.out.next b25)
  have o25 := objNext (B := 0) ⟨Nat.zero_le _, objHere _ _⟩ b25
  obtain ⟨c0, c1, c2, c3, c4, c5, c6, c7, c8⟩ := zcells o25.2
  clear b25 o25
  go_wp2_with fail
  refine (HC3.out.use T25.out.h).mono ?_
  rintro e w26 ⟨rfl, b26⟩
  have T26 := Lib.hid (T25.out.next b26)
  clear b26
  go_wp2_with fail
  go_ret
  exact ⟨rfl, T26.out.h⟩

set_option maxHeartbeats 8000000 in
set_option maxRecDepth 100000 in
theorem words_nyn (k1 i1 e1 t1 d1 k2 i2 e2 t2 d2 : Int) (p1 n1 v1 p2 n2 v2 : ByteArray) (f1 f2 : Bool) (s : ByteArray) (w : World) (tb : ByteArray)  (HA : Hid (Ct w 14 #[] (.bool true)))
    (HL1 : Hid (∀ W, Calls Tryz.prog 9 #[.agg #[.int .u8 k1, .int .i64 i1, .int .i64 e1, .int .i64 t1, .int .i64 d1, .string p1, .string n1, .string v1, .bool f1]] W (BelB W false)))
    (HL2 : Hid (∀ W, Calls Tryz.prog 9 #[.agg #[.int .u8 k2, .int .i64 i2, .int .i64 e2, .int .i64 t2, .int .i64 d2, .string p2, .string n2, .string v2, .bool f2]] W (BelB W false)))
    (gs : decide ((3000 : Int) < (s.size : Int)) = false)
    (HT1 : Hid (Ct w 10 #[.agg #[.int .u8 k1, .int .i64 i1, .int .i64 e1, .int .i64 t1, .int .i64 d1, .string p1, .string n1, .string v1, .bool f1]] (.tuple #[.string ⟨#[]⟩, .int .i64 8])))
    (HT2 : Hid (Ct w 10 #[.agg #[.int .u8 k2, .int .i64 i2, .int .i64 e2, .int .i64 t2, .int .i64 d2, .string p2, .string n2, .string v2, .bool f2]] (.tuple #[.string tb, .int .i64 0])))
    (HC1 : Hid (Ct w 16 #[.agg #[.int .u8 k1, .int .i64 i1, .int .i64 e1, .int .i64 t1, .int .i64 d1, .string p1, .string n1, .string v1, .bool f1]] (.int .i64 8)))
    (HPS : Hid (Ct w 12 #[.string s] (.tuple #[.agg #[.int .u8 0, .int .i64 0, .int .i64 0, .int .i64 0, .int .i64 0, .string ⟨#[]⟩, .string ⟨#[]⟩, .string ⟨#[]⟩, .bool false], .int .i64 12]))) :
    Calls Tryz.prog 5 #[.agg #[.int .u8 k1, .int .i64 i1, .int .i64 e1, .int .i64 t1, .int .i64 d1, .string p1, .string n1, .string v1, .bool f1], .agg #[.int .u8 k2, .int .i64 i2, .int .i64 e2, .int .i64 t2, .int .i64 d2, .string p2, .string n2, .string v2, .bool f2], .string s] w (BelB w true) := by
  go_enter Tryz.func5, Tryz.ntmps5
  go_wp2_with fail
  have T1 := Lib.hid (Two.start w (.cells #[.int .u8 k1, .int .i64 i1, .int .i64 e1, .int .i64 t1, .int .i64 d1, .string p1, .string n1, .string v1, .bool f1] 24) (.cells #[.int .u8 k2, .int .i64 i2, .int .i64 e2, .int .i64 t2, .int .i64 d2, .string p2, .string n2, .string v2, .bool f2] 24))
  refine (HA.out.use T1.out.h).mono ?_
  rintro e w2 ⟨rfl, b2⟩
  have T2 := Lib.hid (T1.out.next b2)
  clear b2
  obtain ⟨a0, a1, a2, a3, a4, a5, a6, a7, a8⟩ := zcells T2.out.a
  obtain ⟨b0, b1, b2, b3, b4, b5, b6, b7, b8⟩ := zcells T2.out.b
  go_wp2_with fail
  refine (HL1.out _).mono ?_
  rintro e w3 ⟨rfl, b3⟩
  have T3 := Lib.hid (T2.out.next b3)
  clear a0 a1 a2 a3 a4 a5 a6 a7 a8 b0 b1 b2 b3 b4 b5 b6 b7 b8
  clear b3
  obtain ⟨a0, a1, a2, a3, a4, a5, a6, a7, a8⟩ := zcells T3.out.a
  obtain ⟨b0, b1, b2, b3, b4, b5, b6, b7, b8⟩ := zcells T3.out.b
  go_wp2_with fail
  refine (HL2.out _).mono ?_
  rintro e w4 ⟨rfl, b4⟩
  have T4 := Lib.hid (T3.out.next b4)
  clear a0 a1 a2 a3 a4 a5 a6 a7 a8 b0 b1 b2 b3 b4 b5 b6 b7 b8
  clear b4
  obtain ⟨a0, a1, a2, a3, a4, a5, a6, a7, a8⟩ := zcells T4.out.a
  obtain ⟨b0, b1, b2, b3, b4, b5, b6, b7, b8⟩ := zcells T4.out.b
  go_wp2_with fail
  refine (HT1.out.use T4.out.h).mono ?_
  rintro e w5 ⟨rfl, b5⟩
  have T5 := Lib.hid (T4.out.next b5)
  clear a0 a1 a2 a3 a4 a5 a6 a7 a8 b0 b1 b2 b3 b4 b5 b6 b7 b8
  clear b5
  obtain ⟨a0, a1, a2, a3, a4, a5, a6, a7, a8⟩ := zcells T5.out.a
  obtain ⟨b0, b1, b2, b3, b4, b5, b6, b7, b8⟩ := zcells T5.out.b
  go_wp2_with fail
  refine (HT2.out.use T5.out.h).mono ?_
  rintro e w6 ⟨rfl, b6⟩
  have T6 := Lib.hid (T5.out.next b6)
  clear a0 a1 a2 a3 a4 a5 a6 a7 a8 b0 b1 b2 b3 b4 b5 b6 b7 b8
  clear b6
  obtain ⟨a0, a1, a2, a3, a4, a5, a6, a7, a8⟩ := zcells T6.out.a
  obtain ⟨b0, b1, b2, b3, b4, b5, b6, b7, b8⟩ := zcells T6.out.b
  go_upto_region 6 with (fail)
  go_cut [67] (fun s67 wx => s67 = .bool false ∧ Two w wx (.cells #[.int .u8 k1, .int .i64 i1, .int .i64 e1, .int .i64 t1, .int .i64 d1, .string p1, .string n1, .string v1, .bool f1] 24) (.cells #[.int .u8 k2, .int .i64 i2, .int .i64 e2, .int .i64 t2, .int .i64 d2, .string p2, .string n2, .string v2, .bool f2] 24))
  case first =>
    go_wp2_with fail
    refine (HC1.out.use T6.out.h).mono ?_
    rintro e w7 ⟨rfl, b7⟩
    have T7 := Lib.hid (T6.out.next b7)
    clear a0 a1 a2 a3 a4 a5 a6 a7 a8 b0 b1 b2 b3 b4 b5 b6 b7 b8
    clear b7
    obtain ⟨a0, a1, a2, a3, a4, a5, a6, a7, a8⟩ := zcells T7.out.a
    obtain ⟨b0, b1, b2, b3, b4, b5, b6, b7, b8⟩ := zcells T7.out.b
    go_wp2_with fail
    go_meet
    exact ⟨rfl, T7.out⟩
  case rest =>
  obtain ⟨rfl, t9⟩ := hcut
  have T20 := Lib.hid t9
  clear a0 a1 a2 a3 a4 a5 a6 a7 a8 b0 b1 b2 b3 b4 b5 b6 b7 b8
  clear t9
  obtain ⟨a0, a1, a2, a3, a4, a5, a6, a7, a8⟩ := zcells T20.out.a
  obtain ⟨b0, b1, b2, b3, b4, b5, b6, b7, b8⟩ := zcells T20.out.b
  go_wp2_with fail
  refine (HPS.out.use T20.out.h).mono ?_
  rintro e w23 ⟨rfl, b23⟩
  have T23 := Lib.hid (T20.out.next b23)
  clear a0 a1 a2 a3 a4 a5 a6 a7 a8 b0 b1 b2 b3 b4 b5 b6 b7 b8
  clear b23
  have T24 := Lib.hid (T23.out.alloc (.cells #[.int .u8 0, .int .i64 0, .int .i64 0, .int .i64 0, .int .i64 0, .string ⟨#[]⟩, .string ⟨#[]⟩, .string ⟨#[]⟩, .bool false] 24))
  go_wp2_with fail
  go_ret
  exact ⟨rfl, T24.out.h⟩

set_option maxHeartbeats 8000000 in
set_option maxRecDepth 100000 in
theorem words_nny (k1 i1 e1 t1 d1 k2 i2 e2 t2 d2 : Int) (p1 n1 v1 p2 n2 v2 : ByteArray) (f1 f2 : Bool) (s : ByteArray) (w : World) (k3 i3 e3 t3 d3 : Int) (p3 n3 v3 : ByteArray) (f3 : Bool)  (HA : Hid (Ct w 14 #[] (.bool true)))
    (HL1 : Hid (∀ W, Calls Tryz.prog 9 #[.agg #[.int .u8 k1, .int .i64 i1, .int .i64 e1, .int .i64 t1, .int .i64 d1, .string p1, .string n1, .string v1, .bool f1]] W (BelB W false)))
    (HL2 : Hid (∀ W, Calls Tryz.prog 9 #[.agg #[.int .u8 k2, .int .i64 i2, .int .i64 e2, .int .i64 t2, .int .i64 d2, .string p2, .string n2, .string v2, .bool f2]] W (BelB W false)))
    (gs : decide ((3000 : Int) < (s.size : Int)) = false)
    (HT1 : Hid (Ct w 10 #[.agg #[.int .u8 k1, .int .i64 i1, .int .i64 e1, .int .i64 t1, .int .i64 d1, .string p1, .string n1, .string v1, .bool f1]] (.tuple #[.string ⟨#[]⟩, .int .i64 8])))
    (HT2 : Hid (Ct w 10 #[.agg #[.int .u8 k2, .int .i64 i2, .int .i64 e2, .int .i64 t2, .int .i64 d2, .string p2, .string n2, .string v2, .bool f2]] (.tuple #[.string ⟨#[]⟩, .int .i64 8])))
    (HC1 : Hid (Ct w 16 #[.agg #[.int .u8 k1, .int .i64 i1, .int .i64 e1, .int .i64 t1, .int .i64 d1, .string p1, .string n1, .string v1, .bool f1]] (.int .i64 8)))
    (HPS : Hid (Ct w 12 #[.string s] (.tuple #[.agg #[.int .u8 k3, .int .i64 i3, .int .i64 e3, .int .i64 t3, .int .i64 d3, .string p3, .string n3, .string v3, .bool f3], .int .i64 0])))
    (HT3 : Hid (Ct w 10 #[.agg #[.int .u8 k3, .int .i64 i3, .int .i64 e3, .int .i64 t3, .int .i64 d3, .string p3, .string n3, .string v3, .bool f3]] (.tuple #[.string s, .int .i64 0])))
    (HC3 : Hid (Ct w 16 #[.agg #[.int .u8 k3, .int .i64 i3, .int .i64 e3, .int .i64 t3, .int .i64 d3, .string p3, .string n3, .string v3, .bool f3]] (.int .i64 0))) :
    Calls Tryz.prog 5 #[.agg #[.int .u8 k1, .int .i64 i1, .int .i64 e1, .int .i64 t1, .int .i64 d1, .string p1, .string n1, .string v1, .bool f1], .agg #[.int .u8 k2, .int .i64 i2, .int .i64 e2, .int .i64 t2, .int .i64 d2, .string p2, .string n2, .string v2, .bool f2], .string s] w (BelB w true) := by
  go_enter Tryz.func5, Tryz.ntmps5
  go_wp2_with fail
  have T1 := Lib.hid (Two.start w (.cells #[.int .u8 k1, .int .i64 i1, .int .i64 e1, .int .i64 t1, .int .i64 d1, .string p1, .string n1, .string v1, .bool f1] 24) (.cells #[.int .u8 k2, .int .i64 i2, .int .i64 e2, .int .i64 t2, .int .i64 d2, .string p2, .string n2, .string v2, .bool f2] 24))
  refine (HA.out.use T1.out.h).mono ?_
  rintro e w2 ⟨rfl, b2⟩
  have T2 := Lib.hid (T1.out.next b2)
  clear b2
  obtain ⟨a0, a1, a2, a3, a4, a5, a6, a7, a8⟩ := zcells T2.out.a
  obtain ⟨b0, b1, b2, b3, b4, b5, b6, b7, b8⟩ := zcells T2.out.b
  go_wp2_with fail
  refine (HL1.out _).mono ?_
  rintro e w3 ⟨rfl, b3⟩
  have T3 := Lib.hid (T2.out.next b3)
  clear a0 a1 a2 a3 a4 a5 a6 a7 a8 b0 b1 b2 b3 b4 b5 b6 b7 b8
  clear b3
  obtain ⟨a0, a1, a2, a3, a4, a5, a6, a7, a8⟩ := zcells T3.out.a
  obtain ⟨b0, b1, b2, b3, b4, b5, b6, b7, b8⟩ := zcells T3.out.b
  go_wp2_with fail
  refine (HL2.out _).mono ?_
  rintro e w4 ⟨rfl, b4⟩
  have T4 := Lib.hid (T3.out.next b4)
  clear a0 a1 a2 a3 a4 a5 a6 a7 a8 b0 b1 b2 b3 b4 b5 b6 b7 b8
  clear b4
  obtain ⟨a0, a1, a2, a3, a4, a5, a6, a7, a8⟩ := zcells T4.out.a
  obtain ⟨b0, b1, b2, b3, b4, b5, b6, b7, b8⟩ := zcells T4.out.b
  go_wp2_with fail
  refine (HT1.out.use T4.out.h).mono ?_
  rintro e w5 ⟨rfl, b5⟩
  have T5 := Lib.hid (T4.out.next b5)
  clear a0 a1 a2 a3 a4 a5 a6 a7 a8 b0 b1 b2 b3 b4 b5 b6 b7 b8
  clear b5
  obtain ⟨a0, a1, a2, a3, a4, a5, a6, a7, a8⟩ := zcells T5.out.a
  obtain ⟨b0, b1, b2, b3, b4, b5, b6, b7, b8⟩ := zcells T5.out.b
  go_wp2_with fail
  refine (HT2.out.use T5.out.h).mono ?_
  rintro e w6 ⟨rfl, b6⟩
  have T6 := Lib.hid (T5.out.next b6)
  clear a0 a1 a2 a3 a4 a5 a6 a7 a8 b0 b1 b2 b3 b4 b5 b6 b7 b8
  clear b6
  obtain ⟨a0, a1, a2, a3, a4, a5, a6, a7, a8⟩ := zcells T6.out.a
  obtain ⟨b0, b1, b2, b3, b4, b5, b6, b7, b8⟩ := zcells T6.out.b
  go_upto_region 6 with (fail)
  go_cut [67] (fun s67 wx => s67 = .bool false ∧ Two w wx (.cells #[.int .u8 k1, .int .i64 i1, .int .i64 e1, .int .i64 t1, .int .i64 d1, .string p1, .string n1, .string v1, .bool f1] 24) (.cells #[.int .u8 k2, .int .i64 i2, .int .i64 e2, .int .i64 t2, .int .i64 d2, .string p2, .string n2, .string v2, .bool f2] 24))
  case first =>
    go_wp2_with fail
    refine (HC1.out.use T6.out.h).mono ?_
    rintro e w7 ⟨rfl, b7⟩
    have T7 := Lib.hid (T6.out.next b7)
    clear a0 a1 a2 a3 a4 a5 a6 a7 a8 b0 b1 b2 b3 b4 b5 b6 b7 b8
    clear b7
    obtain ⟨a0, a1, a2, a3, a4, a5, a6, a7, a8⟩ := zcells T7.out.a
    obtain ⟨b0, b1, b2, b3, b4, b5, b6, b7, b8⟩ := zcells T7.out.b
    go_wp2_with fail
    go_meet
    exact ⟨rfl, T7.out⟩
  case rest =>
  obtain ⟨rfl, t9⟩ := hcut
  have T20 := Lib.hid t9
  clear a0 a1 a2 a3 a4 a5 a6 a7 a8 b0 b1 b2 b3 b4 b5 b6 b7 b8
  clear t9
  obtain ⟨a0, a1, a2, a3, a4, a5, a6, a7, a8⟩ := zcells T20.out.a
  obtain ⟨b0, b1, b2, b3, b4, b5, b6, b7, b8⟩ := zcells T20.out.b
  go_wp2_with fail
  refine (HPS.out.use T20.out.h).mono ?_
  rintro e w23 ⟨rfl, b23⟩
  have T23 := Lib.hid (T20.out.next b23)
  clear a0 a1 a2 a3 a4 a5 a6 a7 a8 b0 b1 b2 b3 b4 b5 b6 b7 b8
  clear b23
  have T24 := Lib.hid (T23.out.alloc (.cells #[.int .u8 k3, .int .i64 i3, .int .i64 e3, .int .i64 t3, .int .i64 d3, .string p3, .string n3, .string v3, .bool f3] 24))
  go_wp2_with fail
  refine (HT3.out.use T24.out.h).mono ?_
  rintro e w25 ⟨rfl, b25⟩
  have T25 := Lib.hid (T24.out.next b25)
  have o25 := objNext (B := 0) ⟨Nat.zero_le _, objHere _ _⟩ b25
  obtain ⟨c0, c1, c2, c3, c4, c5, c6, c7, c8⟩ := zcells o25.2
  clear b25 o25
  go_wp2_with fail
  refine (HC3.out.use T25.out.h).mono ?_
  rintro e w26 ⟨rfl, b26⟩
  have T26 := Lib.hid (T25.out.next b26)
  clear b26
  go_wp2_with fail
  go_ret
  exact ⟨rfl, T26.out.h⟩

set_option maxHeartbeats 8000000 in
set_option maxRecDepth 100000 in
theorem words_nnn (k1 i1 e1 t1 d1 k2 i2 e2 t2 d2 : Int) (p1 n1 v1 p2 n2 v2 : ByteArray) (f1 f2 : Bool) (s : ByteArray) (w : World)  (HA : Hid (Ct w 14 #[] (.bool true)))
    (HL1 : Hid (∀ W, Calls Tryz.prog 9 #[.agg #[.int .u8 k1, .int .i64 i1, .int .i64 e1, .int .i64 t1, .int .i64 d1, .string p1, .string n1, .string v1, .bool f1]] W (BelB W false)))
    (HL2 : Hid (∀ W, Calls Tryz.prog 9 #[.agg #[.int .u8 k2, .int .i64 i2, .int .i64 e2, .int .i64 t2, .int .i64 d2, .string p2, .string n2, .string v2, .bool f2]] W (BelB W false)))
    (gs : decide ((3000 : Int) < (s.size : Int)) = false)
    (HT1 : Hid (Ct w 10 #[.agg #[.int .u8 k1, .int .i64 i1, .int .i64 e1, .int .i64 t1, .int .i64 d1, .string p1, .string n1, .string v1, .bool f1]] (.tuple #[.string ⟨#[]⟩, .int .i64 8])))
    (HT2 : Hid (Ct w 10 #[.agg #[.int .u8 k2, .int .i64 i2, .int .i64 e2, .int .i64 t2, .int .i64 d2, .string p2, .string n2, .string v2, .bool f2]] (.tuple #[.string ⟨#[]⟩, .int .i64 8])))
    (HC1 : Hid (Ct w 16 #[.agg #[.int .u8 k1, .int .i64 i1, .int .i64 e1, .int .i64 t1, .int .i64 d1, .string p1, .string n1, .string v1, .bool f1]] (.int .i64 8)))
    (HPS : Hid (Ct w 12 #[.string s] (.tuple #[.agg #[.int .u8 0, .int .i64 0, .int .i64 0, .int .i64 0, .int .i64 0, .string ⟨#[]⟩, .string ⟨#[]⟩, .string ⟨#[]⟩, .bool false], .int .i64 12]))) :
    Calls Tryz.prog 5 #[.agg #[.int .u8 k1, .int .i64 i1, .int .i64 e1, .int .i64 t1, .int .i64 d1, .string p1, .string n1, .string v1, .bool f1], .agg #[.int .u8 k2, .int .i64 i2, .int .i64 e2, .int .i64 t2, .int .i64 d2, .string p2, .string n2, .string v2, .bool f2], .string s] w (BelB w true) := by
  go_enter Tryz.func5, Tryz.ntmps5
  go_wp2_with fail
  have T1 := Lib.hid (Two.start w (.cells #[.int .u8 k1, .int .i64 i1, .int .i64 e1, .int .i64 t1, .int .i64 d1, .string p1, .string n1, .string v1, .bool f1] 24) (.cells #[.int .u8 k2, .int .i64 i2, .int .i64 e2, .int .i64 t2, .int .i64 d2, .string p2, .string n2, .string v2, .bool f2] 24))
  refine (HA.out.use T1.out.h).mono ?_
  rintro e w2 ⟨rfl, b2⟩
  have T2 := Lib.hid (T1.out.next b2)
  clear b2
  obtain ⟨a0, a1, a2, a3, a4, a5, a6, a7, a8⟩ := zcells T2.out.a
  obtain ⟨b0, b1, b2, b3, b4, b5, b6, b7, b8⟩ := zcells T2.out.b
  go_wp2_with fail
  refine (HL1.out _).mono ?_
  rintro e w3 ⟨rfl, b3⟩
  have T3 := Lib.hid (T2.out.next b3)
  clear a0 a1 a2 a3 a4 a5 a6 a7 a8 b0 b1 b2 b3 b4 b5 b6 b7 b8
  clear b3
  obtain ⟨a0, a1, a2, a3, a4, a5, a6, a7, a8⟩ := zcells T3.out.a
  obtain ⟨b0, b1, b2, b3, b4, b5, b6, b7, b8⟩ := zcells T3.out.b
  go_wp2_with fail
  refine (HL2.out _).mono ?_
  rintro e w4 ⟨rfl, b4⟩
  have T4 := Lib.hid (T3.out.next b4)
  clear a0 a1 a2 a3 a4 a5 a6 a7 a8 b0 b1 b2 b3 b4 b5 b6 b7 b8
  clear b4
  obtain ⟨a0, a1, a2, a3, a4, a5, a6, a7, a8⟩ := zcells T4.out.a
  obtain ⟨b0, b1, b2, b3, b4, b5, b6, b7, b8⟩ := zcells T4.out.b
  go_wp2_with fail
  refine (HT1.out.use T4.out.h).mono ?_
  rintro e w5 ⟨rfl, b5⟩
  have T5 := Lib.hid (T4.out.next b5)
  clear a0 a1 a2 a3 a4 a5 a6 a7 a8 b0 b1 b2 b3 b4 b5 b6 b7 b8
  clear b5
  obtain ⟨a0, a1, a2, a3, a4, a5, a6, a7, a8⟩ := zcells T5.out.a
  obtain ⟨b0, b1, b2, b3, b4, b5, b6, b7, b8⟩ := zcells T5.out.b
  go_wp2_with fail
  refine (HT2.out.use T5.out.h).mono ?_
  rintro e w6 ⟨rfl, b6⟩
  have T6 := Lib.hid (T5.out.next b6)
  clear a0 a1 a2 a3 a4 a5 a6 a7 a8 b0 b1 b2 b3 b4 b5 b6 b7 b8
  clear b6
  obtain ⟨a0, a1, a2, a3, a4, a5, a6, a7, a8⟩ := zcells T6.out.a
  obtain ⟨b0, b1, b2, b3, b4, b5, b6, b7, b8⟩ := zcells T6.out.b
  go_upto_region 6 with (fail)
  go_cut [67] (fun s67 wx => s67 = .bool false ∧ Two w wx (.cells #[.int .u8 k1, .int .i64 i1, .int .i64 e1, .int .i64 t1, .int .i64 d1, .string p1, .string n1, .string v1, .bool f1] 24) (.cells #[.int .u8 k2, .int .i64 i2, .int .i64 e2, .int .i64 t2, .int .i64 d2, .string p2, .string n2, .string v2, .bool f2] 24))
  case first =>
    go_wp2_with fail
    refine (HC1.out.use T6.out.h).mono ?_
    rintro e w7 ⟨rfl, b7⟩
    have T7 := Lib.hid (T6.out.next b7)
    clear a0 a1 a2 a3 a4 a5 a6 a7 a8 b0 b1 b2 b3 b4 b5 b6 b7 b8
    clear b7
    obtain ⟨a0, a1, a2, a3, a4, a5, a6, a7, a8⟩ := zcells T7.out.a
    obtain ⟨b0, b1, b2, b3, b4, b5, b6, b7, b8⟩ := zcells T7.out.b
    go_wp2_with fail
    go_meet
    exact ⟨rfl, T7.out⟩
  case rest =>
  obtain ⟨rfl, t9⟩ := hcut
  have T20 := Lib.hid t9
  clear a0 a1 a2 a3 a4 a5 a6 a7 a8 b0 b1 b2 b3 b4 b5 b6 b7 b8
  clear t9
  obtain ⟨a0, a1, a2, a3, a4, a5, a6, a7, a8⟩ := zcells T20.out.a
  obtain ⟨b0, b1, b2, b3, b4, b5, b6, b7, b8⟩ := zcells T20.out.b
  go_wp2_with fail
  refine (HPS.out.use T20.out.h).mono ?_
  rintro e w23 ⟨rfl, b23⟩
  have T23 := Lib.hid (T20.out.next b23)
  clear a0 a1 a2 a3 a4 a5 a6 a7 a8 b0 b1 b2 b3 b4 b5 b6 b7 b8
  clear b23
  have T24 := Lib.hid (T23.out.alloc (.cells #[.int .u8 0, .int .i64 0, .int .i64 0, .int .i64 0, .int .i64 0, .string ⟨#[]⟩, .string ⟨#[]⟩, .string ⟨#[]⟩, .bool false] 24))
  go_wp2_with fail
  go_ret
  exact ⟨rfl, T24.out.h⟩

end Go.Proofs.YtcfgpojogomkhaaGreatDoor
