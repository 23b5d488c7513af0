/-
  The reference's event.Text, kind by kind. Condition: the contracts of the callees, as hypotheses.
-/
import Derived.Test.YtcfgpojogomkhaaGreatDoorVv
import Derived.Test.YtcfgpojogomkhaaGreatDoorWd
import Derived.Test.YtcfgpojogomkhaaGreatDoorVa
namespace Go.Proofs.YtcfgpojogomkhaaGreatDoor
open Go.RowKit

/-- A contract that holds in every world. -/
def Ca (f : FuncId) (args : Array Value) (v : Value) : Prop := ∀ W : World, Calls Tryz.prog f args W fun e w' => e = .returned v ∧ Below W.heap.size W w'
theorem Ca.at {f : FuncId} {args : Array Value} {v : Value} (h : Ca f args v) (W : World) : Calls Tryz.prog f args W fun e w' => e = .returned v ∧ Below W.heap.size W w' := h W
theorem ret_str {x y : ByteArray} {n : Int} (h : x = y) : Ending.returned (.tuple #[.string x, .int .i64 n]) = .returned (.tuple #[.string y, .int .i64 n]) := by rw [h]

set_option maxHeartbeats 8000000 in
set_option maxRecDepth 100000 in
theorem rtext_1 (i1 e1 t1 d1 : Int) (p1 n1 v1 : ByteArray) (f1 : Bool) (w : World) (si se sd : ByteArray)
    (HV : Hid (∀ W, Calls Tryz.prog 26 #[.agg #[.int .u8 1, .int .i64 i1, .int .i64 e1, .int .i64 t1, .int .i64 d1, .string p1, .string n1, .string v1, .bool f1]] W (BelB W true)))
    (HI : Hid (Ca 27 #[.int .i64 i1] (.string si)))
    (HE : Hid (Ca 27 #[.int .i64 e1] (.string se)))
    (HD : Hid (Ca 28 #[.int .i64 d1] (.tuple #[.string sd, .int .i64 0])))
    (zsi : si.size ≤ 100000)
    (zse : se.size ≤ 100000)
    (zn1 : n1.size ≤ 100000)
    (zsd : sd.size ≤ 100000)
    (zv1 : v1.size ≤ 100000) :
    Calls Tryz.prog 11 #[.agg #[.int .u8 1, .int .i64 i1, .int .i64 e1, .int .i64 t1, .int .i64 d1, .string p1, .string n1, .string v1, .bool f1]] w (TPost w (joinS [⟨#[102, 105, 120]⟩, si, se, n1, sd, v1]) 0) := by
  go_enter Tryz.func11, Tryz.ntmps11
  go_wp2_with fail
  refine (HV.out _).mono ?_
  rintro e w2 ⟨rfl, b2⟩
  have ho := (objNext (B := 0) ⟨Nat.zero_le _, objHere _ _⟩ b2).2
  have B2 : Hid (Below w.heap.size w w2) := (own_below _ _).trans (b2.mono (by simp))
  have HO := Lib.hid ho
  obtain ⟨q0, q1, q2, q3, q4, q5, q6, q7, q8⟩ := zcells ho
  have qf := zfrozen ho
  clear b2 ho
  have zz0 : ¬(9223372036854775807 < 1 + si.size) := by omega
  have zz1 : ¬(9223372036854775807 < 1 + si.size + 1) := by omega
  have zz2 : ¬(9223372036854775807 < 1 + si.size + 1 + se.size) := by omega
  have zz3 : ¬(9223372036854775807 < 1 + si.size + 1 + se.size + 1) := by omega
  go_upto_region 3 with (fail)
  have q0' := fun p : BelOf w2 => cell_bel q0 p
  have q1' := fun p : BelOf w2 => cell_bel q1 p
  have q2' := fun p : BelOf w2 => cell_bel q2 p
  have q3' := fun p : BelOf w2 => cell_bel q3 p
  have q4' := fun p : BelOf w2 => cell_bel q4 p
  have q5' := fun p : BelOf w2 => cell_bel q5 p
  have q6' := fun p : BelOf w2 => cell_bel q6 p
  have q7' := fun p : BelOf w2 => cell_bel q7 p
  have q8' := fun p : BelOf w2 => cell_bel q8 p
  clear q0 q1 q2 q3 q4 q5 q6 q7 q8 qf
  refine region_bel (by kernel_rfl) (by kernel_rfl) ?_
  repeat (quiet_step (first
    | (go_at_call 27; first | with_reducible exact bel_of (Ca.at HI.out _) | with_reducible exact bel_of (Ca.at HE.out _))))
  refine wpQuiet_nil ?_
  intro w3 hw
  obtain ⟨pb, hw⟩ := hw
  have hb := pb.h
  rw [← hw] at hb
  clear hw pb
  have B3 : Hid (Below w.heap.size w w3) := B2.out.trans (hb.mono B2.out.size)
  have ho := (objNext (B := 0) ⟨Nat.zero_le _, HO.out⟩ hb).2
  clear q0' q1' q2' q3' q4' q5' q6' q7' q8' HO hb
  have HO := Lib.hid ho
  obtain ⟨q0, q1, q2, q3, q4, q5, q6, q7, q8⟩ := zcells ho
  have qf := zfrozen ho
  clear ho
  clear zz0 zz1 zz2 zz3
  obtain ⟨hd, hhd⟩ : ∃ hd : ByteArray, hd = ⟨#[32]⟩ ++ si ++ ⟨#[32]⟩ ++ se ++ ⟨#[32]⟩ := ⟨_, rfl⟩
  rw [← hhd]
  have zhd : hd.size ≤ 300000 := by rw [hhd]; simp only [ByteArray.size_append]; show 1 + si.size + 1 + se.size + 1 ≤ 300000; omega
  have HHD := Lib.hid hhd
  clear hhd
  go_wp2_with fail
  refine (HD.out _).mono ?_
  rintro e w4 ⟨rfl, b4⟩
  have B4 : Hid (Below w.heap.size w w4) := B3.out.trans (b4.mono B3.out.size)
  have ho := (objNext (B := 0) ⟨Nat.zero_le _, HO.out⟩ b4).2
  clear q0 q1 q2 q3 q4 q5 q6 q7 q8 qf HO b4
  have HO := Lib.hid ho
  obtain ⟨q0, q1, q2, q3, q4, q5, q6, q7, q8⟩ := zcells ho
  have qf := zfrozen ho
  clear ho
  go_wp2_with fail
  go_ret2
  exact ⟨ret_str (Go.WideShapes.bytes_inj (by rw [HHD.out]; simp [joinS, join_two, Lib.join_one])), B4.out⟩

set_option maxHeartbeats 8000000 in
set_option maxRecDepth 100000 in
theorem rtext_2 (i1 e1 t1 d1 : Int) (p1 n1 v1 : ByteArray) (f1 : Bool) (w : World) (si se sd ss : ByteArray)
    (HV : Hid (∀ W, Calls Tryz.prog 26 #[.agg #[.int .u8 2, .int .i64 i1, .int .i64 e1, .int .i64 t1, .int .i64 d1, .string p1, .string n1, .string v1, .bool f1]] W (BelB W true)))
    (HI : Hid (Ca 27 #[.int .i64 i1] (.string si)))
    (HE : Hid (Ca 27 #[.int .i64 e1] (.string se)))
    (HD : Hid (Ca 28 #[.int .i64 d1] (.tuple #[.string sd, .int .i64 0])))
    (HS : Hid (Ca 29 #[.bool f1] (.string ss)))
    (zsi : si.size ≤ 100000)
    (zse : se.size ≤ 100000)
    (zp1 : p1.size ≤ 100000)
    (zn1 : n1.size ≤ 100000)
    (zsd : sd.size ≤ 100000)
    (zss : ss.size ≤ 100000) :
    Calls Tryz.prog 11 #[.agg #[.int .u8 2, .int .i64 i1, .int .i64 e1, .int .i64 t1, .int .i64 d1, .string p1, .string n1, .string v1, .bool f1]] w (TPost w (joinS [⟨#[99, 104, 111, 105, 99, 101]⟩, si, se, p1, n1, sd, ss]) 0) := by
  go_enter Tryz.func11, Tryz.ntmps11
  go_wp2_with fail
  refine (HV.out _).mono ?_
  rintro e w2 ⟨rfl, b2⟩
  have ho := (objNext (B := 0) ⟨Nat.zero_le _, objHere _ _⟩ b2).2
  have B2 : Hid (Below w.heap.size w w2) := (own_below _ _).trans (b2.mono (by simp))
  have HO := Lib.hid ho
  obtain ⟨q0, q1, q2, q3, q4, q5, q6, q7, q8⟩ := zcells ho
  have qf := zfrozen ho
  clear b2 ho
  have zz0 : ¬(9223372036854775807 < 1 + si.size) := by omega
  have zz1 : ¬(9223372036854775807 < 1 + si.size + 1) := by omega
  have zz2 : ¬(9223372036854775807 < 1 + si.size + 1 + se.size) := by omega
  have zz3 : ¬(9223372036854775807 < 1 + si.size + 1 + se.size + 1) := by omega
  go_upto_region 3 with (fail)
  have q0' := fun p : BelOf w2 => cell_bel q0 p
  have q1' := fun p : BelOf w2 => cell_bel q1 p
  have q2' := fun p : BelOf w2 => cell_bel q2 p
  have q3' := fun p : BelOf w2 => cell_bel q3 p
  have q4' := fun p : BelOf w2 => cell_bel q4 p
  have q5' := fun p : BelOf w2 => cell_bel q5 p
  have q6' := fun p : BelOf w2 => cell_bel q6 p
  have q7' := fun p : BelOf w2 => cell_bel q7 p
  have q8' := fun p : BelOf w2 => cell_bel q8 p
  clear q0 q1 q2 q3 q4 q5 q6 q7 q8 qf
  refine region_bel (by kernel_rfl) (by kernel_rfl) ?_
  repeat (quiet_step (first
    | (go_at_call 27; first | with_reducible exact bel_of (Ca.at HI.out _) | with_reducible exact bel_of (Ca.at HE.out _))))
  refine wpQuiet_nil ?_
  intro w3 hw
  obtain ⟨pb, hw⟩ := hw
  have hb := pb.h
  rw [← hw] at hb
  clear hw pb
  have B3 : Hid (Below w.heap.size w w3) := B2.out.trans (hb.mono B2.out.size)
  have ho := (objNext (B := 0) ⟨Nat.zero_le _, HO.out⟩ hb).2
  clear q0' q1' q2' q3' q4' q5' q6' q7' q8' HO hb
  have HO := Lib.hid ho
  obtain ⟨q0, q1, q2, q3, q4, q5, q6, q7, q8⟩ := zcells ho
  have qf := zfrozen ho
  clear ho
  clear zz0 zz1 zz2 zz3
  obtain ⟨hd, hhd⟩ : ∃ hd : ByteArray, hd = ⟨#[32]⟩ ++ si ++ ⟨#[32]⟩ ++ se ++ ⟨#[32]⟩ := ⟨_, rfl⟩
  rw [← hhd]
  have zhd : hd.size ≤ 300000 := by rw [hhd]; simp only [ByteArray.size_append]; show 1 + si.size + 1 + se.size + 1 ≤ 300000; omega
  have HHD := Lib.hid hhd
  clear hhd
  go_wp2_with fail
  refine (HD.out _).mono ?_
  rintro e w4 ⟨rfl, b4⟩
  have B4 : Hid (Below w.heap.size w w4) := B3.out.trans (b4.mono B3.out.size)
  have ho := (objNext (B := 0) ⟨Nat.zero_le _, HO.out⟩ b4).2
  clear q0 q1 q2 q3 q4 q5 q6 q7 q8 qf HO b4
  have HO := Lib.hid ho
  obtain ⟨q0, q1, q2, q3, q4, q5, q6, q7, q8⟩ := zcells ho
  have qf := zfrozen ho
  clear ho
  have zz0 : ¬(9223372036854775807 < 6 + hd.size) := by omega
  have zz1 : ¬(9223372036854775807 < 6 + hd.size + p1.size) := by omega
  have zz2 : ¬(9223372036854775807 < 6 + hd.size + p1.size + 1) := by omega
  have zz3 : ¬(9223372036854775807 < 6 + hd.size + p1.size + 1 + n1.size) := by omega
  have zz4 : ¬(9223372036854775807 < 6 + hd.size + p1.size + 1 + n1.size + 1) := by omega
  have zz5 : ¬(9223372036854775807 < 6 + hd.size + p1.size + 1 + n1.size + 1 + sd.size) := by omega
  have zz6 : ¬(9223372036854775807 < 6 + hd.size + p1.size + 1 + n1.size + 1 + sd.size + 1) := by omega
  have zz7 : ¬(9223372036854775807 < 6 + hd.size + p1.size + 1 + n1.size + 1 + sd.size + 1 + ss.size) := by omega
  go_upto_region 9 with (fail)
  have q0' := fun p : BelOf w4 => cell_bel q0 p
  have q1' := fun p : BelOf w4 => cell_bel q1 p
  have q2' := fun p : BelOf w4 => cell_bel q2 p
  have q3' := fun p : BelOf w4 => cell_bel q3 p
  have q4' := fun p : BelOf w4 => cell_bel q4 p
  have q5' := fun p : BelOf w4 => cell_bel q5 p
  have q6' := fun p : BelOf w4 => cell_bel q6 p
  have q7' := fun p : BelOf w4 => cell_bel q7 p
  have q8' := fun p : BelOf w4 => cell_bel q8 p
  clear q0 q1 q2 q3 q4 q5 q6 q7 q8 qf
  refine region_bel (by kernel_rfl) (by kernel_rfl) ?_
  repeat (quiet_step (first
    | (go_at_call 29; first | with_reducible exact bel_of (Ca.at HS.out _))))
  refine wpQuiet_nil ?_
  intro w5 hw
  obtain ⟨pb, hw⟩ := hw
  have hb := pb.h
  rw [← hw] at hb
  clear hw pb
  have B5 : Hid (Below w.heap.size w w5) := B4.out.trans (hb.mono B4.out.size)
  have ho := (objNext (B := 0) ⟨Nat.zero_le _, HO.out⟩ hb).2
  clear q0' q1' q2' q3' q4' q5' q6' q7' q8' HO hb
  have HO := Lib.hid ho
  obtain ⟨q0, q1, q2, q3, q4, q5, q6, q7, q8⟩ := zcells ho
  have qf := zfrozen ho
  clear ho
  go_wp2_with fail
  go_ret2
  exact ⟨ret_str (Go.WideShapes.bytes_inj (by rw [HHD.out]; simp [joinS, join_two, Lib.join_one])), B5.out⟩

set_option maxHeartbeats 8000000 in
set_option maxRecDepth 100000 in
theorem rtext_3 (i1 e1 t1 d1 : Int) (p1 n1 v1 : ByteArray) (f1 : Bool) (w : World) (si se sd st : ByteArray)
    (HV : Hid (∀ W, Calls Tryz.prog 26 #[.agg #[.int .u8 3, .int .i64 i1, .int .i64 e1, .int .i64 t1, .int .i64 d1, .string p1, .string n1, .string v1, .bool f1]] W (BelB W true)))
    (HI : Hid (Ca 27 #[.int .i64 i1] (.string si)))
    (HE : Hid (Ca 27 #[.int .i64 e1] (.string se)))
    (HD : Hid (Ca 28 #[.int .i64 d1] (.tuple #[.string sd, .int .i64 0])))
    (HT : Hid (Ca 27 #[.int .i64 t1] (.string st)))
    (zsi : si.size ≤ 100000)
    (zse : se.size ≤ 100000)
    (zst : st.size ≤ 100000)
    (zv1 : v1.size ≤ 100000) :
    Calls Tryz.prog 11 #[.agg #[.int .u8 3, .int .i64 i1, .int .i64 e1, .int .i64 t1, .int .i64 d1, .string p1, .string n1, .string v1, .bool f1]] w (TPost w (joinS [⟨#[118, 97, 108, 117, 101]⟩, si, se, st, v1]) 0) := by
  go_enter Tryz.func11, Tryz.ntmps11
  go_wp2_with fail
  refine (HV.out _).mono ?_
  rintro e w2 ⟨rfl, b2⟩
  have ho := (objNext (B := 0) ⟨Nat.zero_le _, objHere _ _⟩ b2).2
  have B2 : Hid (Below w.heap.size w w2) := (own_below _ _).trans (b2.mono (by simp))
  have HO := Lib.hid ho
  obtain ⟨q0, q1, q2, q3, q4, q5, q6, q7, q8⟩ := zcells ho
  have qf := zfrozen ho
  clear b2 ho
  have zz0 : ¬(9223372036854775807 < 1 + si.size) := by omega
  have zz1 : ¬(9223372036854775807 < 1 + si.size + 1) := by omega
  have zz2 : ¬(9223372036854775807 < 1 + si.size + 1 + se.size) := by omega
  have zz3 : ¬(9223372036854775807 < 1 + si.size + 1 + se.size + 1) := by omega
  go_upto_region 3 with (fail)
  have q0' := fun p : BelOf w2 => cell_bel q0 p
  have q1' := fun p : BelOf w2 => cell_bel q1 p
  have q2' := fun p : BelOf w2 => cell_bel q2 p
  have q3' := fun p : BelOf w2 => cell_bel q3 p
  have q4' := fun p : BelOf w2 => cell_bel q4 p
  have q5' := fun p : BelOf w2 => cell_bel q5 p
  have q6' := fun p : BelOf w2 => cell_bel q6 p
  have q7' := fun p : BelOf w2 => cell_bel q7 p
  have q8' := fun p : BelOf w2 => cell_bel q8 p
  clear q0 q1 q2 q3 q4 q5 q6 q7 q8 qf
  refine region_bel (by kernel_rfl) (by kernel_rfl) ?_
  repeat (quiet_step (first
    | (go_at_call 27; first | with_reducible exact bel_of (Ca.at HI.out _) | with_reducible exact bel_of (Ca.at HE.out _))))
  refine wpQuiet_nil ?_
  intro w3 hw
  obtain ⟨pb, hw⟩ := hw
  have hb := pb.h
  rw [← hw] at hb
  clear hw pb
  have B3 : Hid (Below w.heap.size w w3) := B2.out.trans (hb.mono B2.out.size)
  have ho := (objNext (B := 0) ⟨Nat.zero_le _, HO.out⟩ hb).2
  clear q0' q1' q2' q3' q4' q5' q6' q7' q8' HO hb
  have HO := Lib.hid ho
  obtain ⟨q0, q1, q2, q3, q4, q5, q6, q7, q8⟩ := zcells ho
  have qf := zfrozen ho
  clear ho
  clear zz0 zz1 zz2 zz3
  obtain ⟨hd, hhd⟩ : ∃ hd : ByteArray, hd = ⟨#[32]⟩ ++ si ++ ⟨#[32]⟩ ++ se ++ ⟨#[32]⟩ := ⟨_, rfl⟩
  rw [← hhd]
  have zhd : hd.size ≤ 300000 := by rw [hhd]; simp only [ByteArray.size_append]; show 1 + si.size + 1 + se.size + 1 ≤ 300000; omega
  have HHD := Lib.hid hhd
  clear hhd
  go_wp2_with fail
  refine (HD.out _).mono ?_
  rintro e w4 ⟨rfl, b4⟩
  have B4 : Hid (Below w.heap.size w w4) := B3.out.trans (b4.mono B3.out.size)
  have ho := (objNext (B := 0) ⟨Nat.zero_le _, HO.out⟩ b4).2
  clear q0 q1 q2 q3 q4 q5 q6 q7 q8 qf HO b4
  have HO := Lib.hid ho
  obtain ⟨q0, q1, q2, q3, q4, q5, q6, q7, q8⟩ := zcells ho
  have qf := zfrozen ho
  clear ho
  have zz0 : ¬(9223372036854775807 < 5 + hd.size) := by omega
  have zz1 : ¬(9223372036854775807 < 5 + hd.size + st.size) := by omega
  have zz2 : ¬(9223372036854775807 < 5 + hd.size + st.size + 1) := by omega
  have zz3 : ¬(9223372036854775807 < 5 + hd.size + st.size + 1 + v1.size) := by omega
  go_upto_region 11 with (fail)
  have q0' := fun p : BelOf w4 => cell_bel q0 p
  have q1' := fun p : BelOf w4 => cell_bel q1 p
  have q2' := fun p : BelOf w4 => cell_bel q2 p
  have q3' := fun p : BelOf w4 => cell_bel q3 p
  have q4' := fun p : BelOf w4 => cell_bel q4 p
  have q5' := fun p : BelOf w4 => cell_bel q5 p
  have q6' := fun p : BelOf w4 => cell_bel q6 p
  have q7' := fun p : BelOf w4 => cell_bel q7 p
  have q8' := fun p : BelOf w4 => cell_bel q8 p
  clear q0 q1 q2 q3 q4 q5 q6 q7 q8 qf
  refine region_bel (by kernel_rfl) (by kernel_rfl) ?_
  repeat (quiet_step (first
    | (go_at_call 27; first | with_reducible exact bel_of (Ca.at HT.out _))))
  refine wpQuiet_nil ?_
  intro w5 hw
  obtain ⟨pb, hw⟩ := hw
  have hb := pb.h
  rw [← hw] at hb
  clear hw pb
  have B5 : Hid (Below w.heap.size w w5) := B4.out.trans (hb.mono B4.out.size)
  have ho := (objNext (B := 0) ⟨Nat.zero_le _, HO.out⟩ hb).2
  clear q0' q1' q2' q3' q4' q5' q6' q7' q8' HO hb
  have HO := Lib.hid ho
  obtain ⟨q0, q1, q2, q3, q4, q5, q6, q7, q8⟩ := zcells ho
  have qf := zfrozen ho
  clear ho
  go_wp2_with fail
  go_ret2
  exact ⟨ret_str (Go.WideShapes.bytes_inj (by rw [HHD.out]; simp [joinS, join_two, Lib.join_one])), B5.out⟩

set_option maxHeartbeats 8000000 in
set_option maxRecDepth 100000 in
theorem rtext_4 (i1 e1 t1 d1 : Int) (p1 n1 v1 : ByteArray) (f1 : Bool) (w : World) (si se sd st ss : ByteArray)
    (HV : Hid (∀ W, Calls Tryz.prog 26 #[.agg #[.int .u8 4, .int .i64 i1, .int .i64 e1, .int .i64 t1, .int .i64 d1, .string p1, .string n1, .string v1, .bool f1]] W (BelB W true)))
    (HI : Hid (Ca 27 #[.int .i64 i1] (.string si)))
    (HE : Hid (Ca 27 #[.int .i64 e1] (.string se)))
    (HD : Hid (Ca 28 #[.int .i64 d1] (.tuple #[.string sd, .int .i64 0])))
    (HT : Hid (Ca 27 #[.int .i64 t1] (.string st)))
    (HS : Hid (Ca 29 #[.bool f1] (.string ss)))
    (zsi : si.size ≤ 100000)
    (zse : se.size ≤ 100000)
    (zst : st.size ≤ 100000)
    (zss : ss.size ≤ 100000) :
    Calls Tryz.prog 11 #[.agg #[.int .u8 4, .int .i64 i1, .int .i64 e1, .int .i64 t1, .int .i64 d1, .string p1, .string n1, .string v1, .bool f1]] w (TPost w (joinS [⟨#[115, 105, 100, 101]⟩, si, se, st, ss]) 0) := by
  go_enter Tryz.func11, Tryz.ntmps11
  go_wp2_with fail
  refine (HV.out _).mono ?_
  rintro e w2 ⟨rfl, b2⟩
  have ho := (objNext (B := 0) ⟨Nat.zero_le _, objHere _ _⟩ b2).2
  have B2 : Hid (Below w.heap.size w w2) := (own_below _ _).trans (b2.mono (by simp))
  have HO := Lib.hid ho
  obtain ⟨q0, q1, q2, q3, q4, q5, q6, q7, q8⟩ := zcells ho
  have qf := zfrozen ho
  clear b2 ho
  have zz0 : ¬(9223372036854775807 < 1 + si.size) := by omega
  have zz1 : ¬(9223372036854775807 < 1 + si.size + 1) := by omega
  have zz2 : ¬(9223372036854775807 < 1 + si.size + 1 + se.size) := by omega
  have zz3 : ¬(9223372036854775807 < 1 + si.size + 1 + se.size + 1) := by omega
  go_upto_region 3 with (fail)
  have q0' := fun p : BelOf w2 => cell_bel q0 p
  have q1' := fun p : BelOf w2 => cell_bel q1 p
  have q2' := fun p : BelOf w2 => cell_bel q2 p
  have q3' := fun p : BelOf w2 => cell_bel q3 p
  have q4' := fun p : BelOf w2 => cell_bel q4 p
  have q5' := fun p : BelOf w2 => cell_bel q5 p
  have q6' := fun p : BelOf w2 => cell_bel q6 p
  have q7' := fun p : BelOf w2 => cell_bel q7 p
  have q8' := fun p : BelOf w2 => cell_bel q8 p
  clear q0 q1 q2 q3 q4 q5 q6 q7 q8 qf
  refine region_bel (by kernel_rfl) (by kernel_rfl) ?_
  repeat (quiet_step (first
    | (go_at_call 27; first | with_reducible exact bel_of (Ca.at HI.out _) | with_reducible exact bel_of (Ca.at HE.out _))))
  refine wpQuiet_nil ?_
  intro w3 hw
  obtain ⟨pb, hw⟩ := hw
  have hb := pb.h
  rw [← hw] at hb
  clear hw pb
  have B3 : Hid (Below w.heap.size w w3) := B2.out.trans (hb.mono B2.out.size)
  have ho := (objNext (B := 0) ⟨Nat.zero_le _, HO.out⟩ hb).2
  clear q0' q1' q2' q3' q4' q5' q6' q7' q8' HO hb
  have HO := Lib.hid ho
  obtain ⟨q0, q1, q2, q3, q4, q5, q6, q7, q8⟩ := zcells ho
  have qf := zfrozen ho
  clear ho
  clear zz0 zz1 zz2 zz3
  obtain ⟨hd, hhd⟩ : ∃ hd : ByteArray, hd = ⟨#[32]⟩ ++ si ++ ⟨#[32]⟩ ++ se ++ ⟨#[32]⟩ := ⟨_, rfl⟩
  rw [← hhd]
  have zhd : hd.size ≤ 300000 := by rw [hhd]; simp only [ByteArray.size_append]; show 1 + si.size + 1 + se.size + 1 ≤ 300000; omega
  have HHD := Lib.hid hhd
  clear hhd
  go_wp2_with fail
  refine (HD.out _).mono ?_
  rintro e w4 ⟨rfl, b4⟩
  have B4 : Hid (Below w.heap.size w w4) := B3.out.trans (b4.mono B3.out.size)
  have ho := (objNext (B := 0) ⟨Nat.zero_le _, HO.out⟩ b4).2
  clear q0 q1 q2 q3 q4 q5 q6 q7 q8 qf HO b4
  have HO := Lib.hid ho
  obtain ⟨q0, q1, q2, q3, q4, q5, q6, q7, q8⟩ := zcells ho
  have qf := zfrozen ho
  clear ho
  have zz0 : ¬(9223372036854775807 < 4 + hd.size) := by omega
  have zz1 : ¬(9223372036854775807 < 4 + hd.size + st.size) := by omega
  have zz2 : ¬(9223372036854775807 < 4 + hd.size + st.size + 1) := by omega
  have zz3 : ¬(9223372036854775807 < 4 + hd.size + st.size + 1 + ss.size) := by omega
  go_upto_region 13 with (fail)
  have q0' := fun p : BelOf w4 => cell_bel q0 p
  have q1' := fun p : BelOf w4 => cell_bel q1 p
  have q2' := fun p : BelOf w4 => cell_bel q2 p
  have q3' := fun p : BelOf w4 => cell_bel q3 p
  have q4' := fun p : BelOf w4 => cell_bel q4 p
  have q5' := fun p : BelOf w4 => cell_bel q5 p
  have q6' := fun p : BelOf w4 => cell_bel q6 p
  have q7' := fun p : BelOf w4 => cell_bel q7 p
  have q8' := fun p : BelOf w4 => cell_bel q8 p
  clear q0 q1 q2 q3 q4 q5 q6 q7 q8 qf
  refine region_bel (by kernel_rfl) (by kernel_rfl) ?_
  repeat (quiet_step (first
    | (go_at_call 27; first | with_reducible exact bel_of (Ca.at HT.out _))
    | (go_at_call 29; first | with_reducible exact bel_of (Ca.at HS.out _))))
  refine wpQuiet_nil ?_
  intro w5 hw
  obtain ⟨pb, hw⟩ := hw
  have hb := pb.h
  rw [← hw] at hb
  clear hw pb
  have B5 : Hid (Below w.heap.size w w5) := B4.out.trans (hb.mono B4.out.size)
  have ho := (objNext (B := 0) ⟨Nat.zero_le _, HO.out⟩ hb).2
  clear q0' q1' q2' q3' q4' q5' q6' q7' q8' HO hb
  have HO := Lib.hid ho
  obtain ⟨q0, q1, q2, q3, q4, q5, q6, q7, q8⟩ := zcells ho
  have qf := zfrozen ho
  clear ho
  go_wp2_with fail
  go_ret2
  exact ⟨ret_str (Go.WideShapes.bytes_inj (by rw [HHD.out]; simp [joinS, join_two, Lib.join_one])), B5.out⟩

set_option maxHeartbeats 8000000 in
set_option maxRecDepth 100000 in
theorem rtext_5 (i1 e1 t1 d1 : Int) (p1 n1 v1 : ByteArray) (f1 : Bool) (w : World) (si se sd st : ByteArray)
    (HV : Hid (∀ W, Calls Tryz.prog 26 #[.agg #[.int .u8 5, .int .i64 i1, .int .i64 e1, .int .i64 t1, .int .i64 d1, .string p1, .string n1, .string v1, .bool f1]] W (BelB W true)))
    (HI : Hid (Ca 27 #[.int .i64 i1] (.string si)))
    (HE : Hid (Ca 27 #[.int .i64 e1] (.string se)))
    (HD : Hid (Ca 28 #[.int .i64 d1] (.tuple #[.string sd, .int .i64 0])))
    (HT : Hid (Ca 27 #[.int .i64 t1] (.string st)))
    (zsi : si.size ≤ 100000)
    (zse : se.size ≤ 100000)
    (zst : st.size ≤ 100000) :
    Calls Tryz.prog 11 #[.agg #[.int .u8 5, .int .i64 i1, .int .i64 e1, .int .i64 t1, .int .i64 d1, .string p1, .string n1, .string v1, .bool f1]] w (TPost w (joinS [⟨#[99, 97, 110, 99, 101, 108]⟩, si, se, st]) 0) := by
  go_enter Tryz.func11, Tryz.ntmps11
  go_wp2_with fail
  refine (HV.out _).mono ?_
  rintro e w2 ⟨rfl, b2⟩
  have ho := (objNext (B := 0) ⟨Nat.zero_le _, objHere _ _⟩ b2).2
  have B2 : Hid (Below w.heap.size w w2) := (own_below _ _).trans (b2.mono (by simp))
  have HO := Lib.hid ho
  obtain ⟨q0, q1, q2, q3, q4, q5, q6, q7, q8⟩ := zcells ho
  have qf := zfrozen ho
  clear b2 ho
  have zz0 : ¬(9223372036854775807 < 1 + si.size) := by omega
  have zz1 : ¬(9223372036854775807 < 1 + si.size + 1) := by omega
  have zz2 : ¬(9223372036854775807 < 1 + si.size + 1 + se.size) := by omega
  have zz3 : ¬(9223372036854775807 < 1 + si.size + 1 + se.size + 1) := by omega
  go_upto_region 3 with (fail)
  have q0' := fun p : BelOf w2 => cell_bel q0 p
  have q1' := fun p : BelOf w2 => cell_bel q1 p
  have q2' := fun p : BelOf w2 => cell_bel q2 p
  have q3' := fun p : BelOf w2 => cell_bel q3 p
  have q4' := fun p : BelOf w2 => cell_bel q4 p
  have q5' := fun p : BelOf w2 => cell_bel q5 p
  have q6' := fun p : BelOf w2 => cell_bel q6 p
  have q7' := fun p : BelOf w2 => cell_bel q7 p
  have q8' := fun p : BelOf w2 => cell_bel q8 p
  clear q0 q1 q2 q3 q4 q5 q6 q7 q8 qf
  refine region_bel (by kernel_rfl) (by kernel_rfl) ?_
  repeat (quiet_step (first
    | (go_at_call 27; first | with_reducible exact bel_of (Ca.at HI.out _) | with_reducible exact bel_of (Ca.at HE.out _))))
  refine wpQuiet_nil ?_
  intro w3 hw
  obtain ⟨pb, hw⟩ := hw
  have hb := pb.h
  rw [← hw] at hb
  clear hw pb
  have B3 : Hid (Below w.heap.size w w3) := B2.out.trans (hb.mono B2.out.size)
  have ho := (objNext (B := 0) ⟨Nat.zero_le _, HO.out⟩ hb).2
  clear q0' q1' q2' q3' q4' q5' q6' q7' q8' HO hb
  have HO := Lib.hid ho
  obtain ⟨q0, q1, q2, q3, q4, q5, q6, q7, q8⟩ := zcells ho
  have qf := zfrozen ho
  clear ho
  clear zz0 zz1 zz2 zz3
  obtain ⟨hd, hhd⟩ : ∃ hd : ByteArray, hd = ⟨#[32]⟩ ++ si ++ ⟨#[32]⟩ ++ se ++ ⟨#[32]⟩ := ⟨_, rfl⟩
  rw [← hhd]
  have zhd : hd.size ≤ 300000 := by rw [hhd]; simp only [ByteArray.size_append]; show 1 + si.size + 1 + se.size + 1 ≤ 300000; omega
  have HHD := Lib.hid hhd
  clear hhd
  go_wp2_with fail
  refine (HD.out _).mono ?_
  rintro e w4 ⟨rfl, b4⟩
  have B4 : Hid (Below w.heap.size w w4) := B3.out.trans (b4.mono B3.out.size)
  have ho := (objNext (B := 0) ⟨Nat.zero_le _, HO.out⟩ b4).2
  clear q0 q1 q2 q3 q4 q5 q6 q7 q8 qf HO b4
  have HO := Lib.hid ho
  obtain ⟨q0, q1, q2, q3, q4, q5, q6, q7, q8⟩ := zcells ho
  have qf := zfrozen ho
  clear ho
  go_wp2_with fail
  refine (HT.out _).mono ?_
  rintro e w5 ⟨rfl, b5⟩
  have B5 : Hid (Below w.heap.size w w5) := B4.out.trans (b5.mono B4.out.size)
  have ho := (objNext (B := 0) ⟨Nat.zero_le _, HO.out⟩ b5).2
  clear q0 q1 q2 q3 q4 q5 q6 q7 q8 qf HO b5
  have HO := Lib.hid ho
  obtain ⟨q0, q1, q2, q3, q4, q5, q6, q7, q8⟩ := zcells ho
  have qf := zfrozen ho
  clear ho
  go_wp2_with fail
  go_ret2
  exact ⟨ret_str (Go.WideShapes.bytes_inj (by rw [HHD.out]; simp [joinS, join_two, Lib.join_one])), B5.out⟩

set_option maxHeartbeats 2000000 in
set_option maxRecDepth 100000 in
theorem rtext_no (k1 i1 e1 t1 d1 : Int) (p1 n1 v1 : ByteArray) (f1 : Bool) (w : World) (HV : Hid (∀ W, Calls Tryz.prog 26 #[.agg #[.int .u8 k1, .int .i64 i1, .int .i64 e1, .int .i64 t1, .int .i64 d1, .string p1, .string n1, .string v1, .bool f1]] W (BelB W false))) :
    Calls Tryz.prog 11 #[.agg #[.int .u8 k1, .int .i64 i1, .int .i64 e1, .int .i64 t1, .int .i64 d1, .string p1, .string n1, .string v1, .bool f1]] w (TPost w ⟨#[]⟩ 8) := by
  go_enter Tryz.func11, Tryz.ntmps11
  go_wp2_with fail
  refine (HV.out _).mono ?_
  rintro e w2 ⟨rfl, b2⟩
  have B2 : Hid (Below w.heap.size w w2) := (own_below _ _).trans (b2.mono (by simp))
  clear b2
  go_wp2_with fail
  go_ret2
  exact ⟨rfl, B2.out⟩
theorem pick_any (b : Bool) : Ca 29 #[.bool b] (.string (if b = true then ⟨#[121, 101, 115]⟩ else ⟨#[110, 111]⟩)) := fun w => by
  cases b
  all_goals
    go_enter Tryz.func29, Tryz.ntmps29
    go_wp2_with fail
    go_ret
    exact ⟨rfl, Below.refl _ _⟩

end Go.Proofs.YtcfgpojogomkhaaGreatDoor
