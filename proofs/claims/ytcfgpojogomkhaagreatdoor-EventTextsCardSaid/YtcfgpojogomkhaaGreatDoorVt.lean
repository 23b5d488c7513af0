/-
  The program's Check of events walked, by cases. No condition. event.Check, the reference's Valid: joined. No condition.
-/
import Derived.Test.YtcfgpojogomkhaaGreatDoorVs
import Derived.RegionTactic
import Derived.Test.YtcfgpojogomkhaaGreatDoorVr
namespace Go.Proofs.YtcfgpojogomkhaaGreatDoor
open Go.RowKit

def ErrB (W : World) (b : Bool) (e : Ending) (w' : World) : Prop := e = .returned (.int .i64 (if b = true then 0 else 8)) ∧ Below W.heap.size W w'

set_option maxHeartbeats 4000000 in
set_option maxRecDepth 100000 in
theorem check_k1 (i1 e1 t1 d1 : Int) (p1 n1 v1 : ByteArray) (f1 : Bool) (w : World) (b_f b_p b_t bd bn bt bv : Bool) (hi1 : 1 ≤ i1) (hi2 : i1 ≤ 1073741824)
    (HI : Hid (∀ W, Calls Tryz.prog 43 #[.int .i64 i1, .int .i64 1, .int .i64 1073741824] W (RetB W true)))
    (HE : Hid (∀ W, Calls Tryz.prog 43 #[.int .i64 e1, .int .i64 0, .int .i64 1125899906842624] W (RetB W true)))
    (HT : Hid (∀ W, Calls Tryz.prog 43 #[.int .i64 t1, .int .i64 1, .int .i64 (i1 - 1)] W (RetB W bt)))
    (x : Int) (HV : Hid (∀ W, Calls Tryz.prog 44 #[.string v1] W (ErrPost W x))) (hx : (x == 0) = bv)
    (HN : Hid (∀ W, Calls Tryz.prog 45 #[.string n1] W (RetB W bn)))
    (HD : Hid (∀ W, Calls Tryz.prog 46 #[.int .i64 d1] W (RetB W bd)))
    (q_t : ((t1 : Int) == 0) = b_t)
    (q_p : p1.toList.isEmpty = b_p)
    (q_f : (!f1) = b_f) :
    Calls Tryz.prog 16 #[.agg #[.int .u8 1, .int .i64 i1, .int .i64 e1, .int .i64 t1, .int .i64 d1, .string p1, .string n1, .string v1, .bool f1]] w (ErrB w (bn && bd && bv && b_t && b_p && b_f)) := by
  go_enter Tryz.func16, Tryz.ntmps16
  go_wp2_with fail
  refine (HI.out _).mono ?_
  rintro e w' ⟨rfl, rfl⟩
  go_wp2_with fail
  refine (HE.out _).mono ?_
  rintro e w' ⟨rfl, rfl⟩
  go_wp2_with fail
  refine (HT.out _).mono ?_
  rintro e w' ⟨rfl, rfl⟩
  go_wp2_with fail
  refine (HV.out _).mono ?_
  rintro e w2 ⟨rfl, b2⟩
  have B : Hid (Below w.heap.size w w2) := (own_below _ _).trans (b2.mono (by simp))
  have a0 : w2.cell? ⟨w.heap.size, 0, none⟩ = some (.int .u8 1) := by rw [(bcell b2).1 _ _ (by simp)]; simp [go_sem]
  have a1 : w2.cell? ⟨w.heap.size, 1, none⟩ = some (.int .i64 i1) := by rw [(bcell b2).1 _ _ (by simp)]; simp [go_sem]
  have a2 : w2.cell? ⟨w.heap.size, 2, none⟩ = some (.int .i64 e1) := by rw [(bcell b2).1 _ _ (by simp)]; simp [go_sem]
  have a3 : w2.cell? ⟨w.heap.size, 3, none⟩ = some (.int .i64 t1) := by rw [(bcell b2).1 _ _ (by simp)]; simp [go_sem]
  have a4 : w2.cell? ⟨w.heap.size, 4, none⟩ = some (.int .i64 d1) := by rw [(bcell b2).1 _ _ (by simp)]; simp [go_sem]
  have a5 : w2.cell? ⟨w.heap.size, 5, none⟩ = some (.string p1) := by rw [(bcell b2).1 _ _ (by simp)]; simp [go_sem]
  have a6 : w2.cell? ⟨w.heap.size, 6, none⟩ = some (.string n1) := by rw [(bcell b2).1 _ _ (by simp)]; simp [go_sem]
  have a7 : w2.cell? ⟨w.heap.size, 7, none⟩ = some (.string v1) := by rw [(bcell b2).1 _ _ (by simp)]; simp [go_sem]
  have a8 : w2.cell? ⟨w.heap.size, 8, none⟩ = some (.bool f1) := by rw [(bcell b2).1 _ _ (by simp)]; simp [go_sem]
  have hs : w.heap.size < w2.heap.size := Nat.lt_of_lt_of_le (by simp) b2.size
  clear b2
  go_wp2_with fail
  refine (HN.out _).mono ?_
  rintro e w' ⟨rfl, rfl⟩
  cases bn with
  | false =>
    go_wp2_with fail
    go_region
    all_goals go_wp2_with fail
    all_goals
      go_ret
      exact ⟨ret_int (by simp_all), by first | exact B.out.alloc B.out.size _ | exact (B.out.alloc B.out.size _).drew⟩
  | true =>
    go_wp2_with fail
    refine (HD.out _).mono ?_
    rintro e w' ⟨rfl, rfl⟩
    cases bd with
    | false =>
      go_wp2_with fail
      go_region
      all_goals go_wp2_with fail
      all_goals
        go_ret
        exact ⟨ret_int (by simp_all), by first | exact B.out.alloc B.out.size _ | exact (B.out.alloc B.out.size _).drew⟩
    | true =>
      go_wp2_with fail
      go_region
      all_goals go_wp2_with fail
      all_goals
        go_ret
        exact ⟨ret_int (by simp_all), by first | exact B.out.alloc B.out.size _ | exact (B.out.alloc B.out.size _).drew⟩

set_option maxHeartbeats 4000000 in
set_option maxRecDepth 100000 in
theorem check_k2 (i1 e1 t1 d1 : Int) (p1 n1 v1 : ByteArray) (f1 : Bool) (w : World) (b_t b_v bd bn bp bt bv : Bool) (hi1 : 1 ≤ i1) (hi2 : i1 ≤ 1073741824)
    (HI : Hid (∀ W, Calls Tryz.prog 43 #[.int .i64 i1, .int .i64 1, .int .i64 1073741824] W (RetB W true)))
    (HE : Hid (∀ W, Calls Tryz.prog 43 #[.int .i64 e1, .int .i64 0, .int .i64 1125899906842624] W (RetB W true)))
    (HT : Hid (∀ W, Calls Tryz.prog 43 #[.int .i64 t1, .int .i64 1, .int .i64 (i1 - 1)] W (RetB W bt)))
    (x : Int) (HV : Hid (∀ W, Calls Tryz.prog 44 #[.string v1] W (ErrPost W x))) (hx : (x == 0) = bv)
    (HP : Hid (∀ W, Calls Tryz.prog 45 #[.string p1] W (RetB W bp)))
    (HN : Hid (∀ W, Calls Tryz.prog 45 #[.string n1] W (RetB W bn)))
    (HD : Hid (∀ W, Calls Tryz.prog 46 #[.int .i64 d1] W (RetB W bd)))
    (q_t : ((t1 : Int) == 0) = b_t)
    (q_v : v1.toList.isEmpty = b_v) :
    Calls Tryz.prog 16 #[.agg #[.int .u8 2, .int .i64 i1, .int .i64 e1, .int .i64 t1, .int .i64 d1, .string p1, .string n1, .string v1, .bool f1]] w (ErrB w (bp && bn && bd && b_t && b_v)) := by
  go_enter Tryz.func16, Tryz.ntmps16
  go_wp2_with fail
  refine (HI.out _).mono ?_
  rintro e w' ⟨rfl, rfl⟩
  go_wp2_with fail
  refine (HE.out _).mono ?_
  rintro e w' ⟨rfl, rfl⟩
  go_wp2_with fail
  refine (HT.out _).mono ?_
  rintro e w' ⟨rfl, rfl⟩
  go_wp2_with fail
  refine (HV.out _).mono ?_
  rintro e w2 ⟨rfl, b2⟩
  have B : Hid (Below w.heap.size w w2) := (own_below _ _).trans (b2.mono (by simp))
  have a0 : w2.cell? ⟨w.heap.size, 0, none⟩ = some (.int .u8 2) := by rw [(bcell b2).1 _ _ (by simp)]; simp [go_sem]
  have a1 : w2.cell? ⟨w.heap.size, 1, none⟩ = some (.int .i64 i1) := by rw [(bcell b2).1 _ _ (by simp)]; simp [go_sem]
  have a2 : w2.cell? ⟨w.heap.size, 2, none⟩ = some (.int .i64 e1) := by rw [(bcell b2).1 _ _ (by simp)]; simp [go_sem]
  have a3 : w2.cell? ⟨w.heap.size, 3, none⟩ = some (.int .i64 t1) := by rw [(bcell b2).1 _ _ (by simp)]; simp [go_sem]
  have a4 : w2.cell? ⟨w.heap.size, 4, none⟩ = some (.int .i64 d1) := by rw [(bcell b2).1 _ _ (by simp)]; simp [go_sem]
  have a5 : w2.cell? ⟨w.heap.size, 5, none⟩ = some (.string p1) := by rw [(bcell b2).1 _ _ (by simp)]; simp [go_sem]
  have a6 : w2.cell? ⟨w.heap.size, 6, none⟩ = some (.string n1) := by rw [(bcell b2).1 _ _ (by simp)]; simp [go_sem]
  have a7 : w2.cell? ⟨w.heap.size, 7, none⟩ = some (.string v1) := by rw [(bcell b2).1 _ _ (by simp)]; simp [go_sem]
  have a8 : w2.cell? ⟨w.heap.size, 8, none⟩ = some (.bool f1) := by rw [(bcell b2).1 _ _ (by simp)]; simp [go_sem]
  have hs : w.heap.size < w2.heap.size := Nat.lt_of_lt_of_le (by simp) b2.size
  clear b2
  go_wp2_with fail
  refine (HP.out _).mono ?_
  rintro e w' ⟨rfl, rfl⟩
  cases bp with
  | false =>
    go_wp2_with fail
    go_region
    all_goals go_wp2_with fail
    all_goals
      go_ret
      exact ⟨ret_int (by simp_all), by first | exact B.out.alloc B.out.size _ | exact (B.out.alloc B.out.size _).drew⟩
  | true =>
    go_wp2_with fail
    refine (HN.out _).mono ?_
    rintro e w' ⟨rfl, rfl⟩
    cases bn with
    | false =>
      go_wp2_with fail
      go_region
      all_goals go_wp2_with fail
      all_goals
        go_ret
        exact ⟨ret_int (by simp_all), by first | exact B.out.alloc B.out.size _ | exact (B.out.alloc B.out.size _).drew⟩
    | true =>
      go_wp2_with fail
      refine (HD.out _).mono ?_
      rintro e w' ⟨rfl, rfl⟩
      go_wp2_with fail
      go_region
      all_goals go_wp2_with fail
      all_goals
        go_ret
        exact ⟨ret_int (by simp_all), by first | exact B.out.alloc B.out.size _ | exact (B.out.alloc B.out.size _).drew⟩

set_option maxHeartbeats 4000000 in
set_option maxRecDepth 100000 in
theorem check_k3 (i1 e1 t1 d1 : Int) (p1 n1 v1 : ByteArray) (f1 : Bool) (w : World) (b_d b_f b_n b_p bt bv : Bool) (hi1 : 1 ≤ i1) (hi2 : i1 ≤ 1073741824)
    (HI : Hid (∀ W, Calls Tryz.prog 43 #[.int .i64 i1, .int .i64 1, .int .i64 1073741824] W (RetB W true)))
    (HE : Hid (∀ W, Calls Tryz.prog 43 #[.int .i64 e1, .int .i64 0, .int .i64 1125899906842624] W (RetB W true)))
    (HT : Hid (∀ W, Calls Tryz.prog 43 #[.int .i64 t1, .int .i64 1, .int .i64 (i1 - 1)] W (RetB W bt)))
    (x : Int) (HV : Hid (∀ W, Calls Tryz.prog 44 #[.string v1] W (ErrPost W x))) (hx : (x == 0) = bv)
    (q_d : ((d1 : Int) == 0) = b_d)
    (q_p : p1.toList.isEmpty = b_p)
    (q_n : n1.toList.isEmpty = b_n)
    (q_f : (!f1) = b_f) :
    Calls Tryz.prog 16 #[.agg #[.int .u8 3, .int .i64 i1, .int .i64 e1, .int .i64 t1, .int .i64 d1, .string p1, .string n1, .string v1, .bool f1]] w (ErrB w (bt && bv && b_d && b_p && b_n && b_f)) := by
  go_enter Tryz.func16, Tryz.ntmps16
  go_wp2_with fail
  refine (HI.out _).mono ?_
  rintro e w' ⟨rfl, rfl⟩
  go_wp2_with fail
  refine (HE.out _).mono ?_
  rintro e w' ⟨rfl, rfl⟩
  go_wp2_with fail
  refine (HT.out _).mono ?_
  rintro e w' ⟨rfl, rfl⟩
  go_wp2_with fail
  refine (HV.out _).mono ?_
  rintro e w2 ⟨rfl, b2⟩
  have B : Hid (Below w.heap.size w w2) := (own_below _ _).trans (b2.mono (by simp))
  have a0 : w2.cell? ⟨w.heap.size, 0, none⟩ = some (.int .u8 3) := by rw [(bcell b2).1 _ _ (by simp)]; simp [go_sem]
  have a1 : w2.cell? ⟨w.heap.size, 1, none⟩ = some (.int .i64 i1) := by rw [(bcell b2).1 _ _ (by simp)]; simp [go_sem]
  have a2 : w2.cell? ⟨w.heap.size, 2, none⟩ = some (.int .i64 e1) := by rw [(bcell b2).1 _ _ (by simp)]; simp [go_sem]
  have a3 : w2.cell? ⟨w.heap.size, 3, none⟩ = some (.int .i64 t1) := by rw [(bcell b2).1 _ _ (by simp)]; simp [go_sem]
  have a4 : w2.cell? ⟨w.heap.size, 4, none⟩ = some (.int .i64 d1) := by rw [(bcell b2).1 _ _ (by simp)]; simp [go_sem]
  have a5 : w2.cell? ⟨w.heap.size, 5, none⟩ = some (.string p1) := by rw [(bcell b2).1 _ _ (by simp)]; simp [go_sem]
  have a6 : w2.cell? ⟨w.heap.size, 6, none⟩ = some (.string n1) := by rw [(bcell b2).1 _ _ (by simp)]; simp [go_sem]
  have a7 : w2.cell? ⟨w.heap.size, 7, none⟩ = some (.string v1) := by rw [(bcell b2).1 _ _ (by simp)]; simp [go_sem]
  have a8 : w2.cell? ⟨w.heap.size, 8, none⟩ = some (.bool f1) := by rw [(bcell b2).1 _ _ (by simp)]; simp [go_sem]
  have hs : w.heap.size < w2.heap.size := Nat.lt_of_lt_of_le (by simp) b2.size
  clear b2
  cases bt
  all_goals
    go_wp2_with fail
    go_region
    all_goals go_wp2_with fail
    all_goals
      go_ret
      exact ⟨ret_int (by simp_all), by first | exact B.out.alloc B.out.size _ | exact (B.out.alloc B.out.size _).drew⟩

set_option maxHeartbeats 4000000 in
set_option maxRecDepth 100000 in
theorem check_k4 (i1 e1 t1 d1 : Int) (p1 n1 v1 : ByteArray) (f1 : Bool) (w : World) (b_d b_n b_p b_v bt bv : Bool) (hi1 : 1 ≤ i1) (hi2 : i1 ≤ 1073741824)
    (HI : Hid (∀ W, Calls Tryz.prog 43 #[.int .i64 i1, .int .i64 1, .int .i64 1073741824] W (RetB W true)))
    (HE : Hid (∀ W, Calls Tryz.prog 43 #[.int .i64 e1, .int .i64 0, .int .i64 1125899906842624] W (RetB W true)))
    (HT : Hid (∀ W, Calls Tryz.prog 43 #[.int .i64 t1, .int .i64 1, .int .i64 (i1 - 1)] W (RetB W bt)))
    (x : Int) (HV : Hid (∀ W, Calls Tryz.prog 44 #[.string v1] W (ErrPost W x))) (hx : (x == 0) = bv)
    (q_d : ((d1 : Int) == 0) = b_d)
    (q_p : p1.toList.isEmpty = b_p)
    (q_n : n1.toList.isEmpty = b_n)
    (q_v : v1.toList.isEmpty = b_v) :
    Calls Tryz.prog 16 #[.agg #[.int .u8 4, .int .i64 i1, .int .i64 e1, .int .i64 t1, .int .i64 d1, .string p1, .string n1, .string v1, .bool f1]] w (ErrB w (bt && b_d && b_p && b_n && b_v)) := by
  go_enter Tryz.func16, Tryz.ntmps16
  go_wp2_with fail
  refine (HI.out _).mono ?_
  rintro e w' ⟨rfl, rfl⟩
  go_wp2_with fail
  refine (HE.out _).mono ?_
  rintro e w' ⟨rfl, rfl⟩
  go_wp2_with fail
  refine (HT.out _).mono ?_
  rintro e w' ⟨rfl, rfl⟩
  go_wp2_with fail
  refine (HV.out _).mono ?_
  rintro e w2 ⟨rfl, b2⟩
  have B : Hid (Below w.heap.size w w2) := (own_below _ _).trans (b2.mono (by simp))
  have a0 : w2.cell? ⟨w.heap.size, 0, none⟩ = some (.int .u8 4) := by rw [(bcell b2).1 _ _ (by simp)]; simp [go_sem]
  have a1 : w2.cell? ⟨w.heap.size, 1, none⟩ = some (.int .i64 i1) := by rw [(bcell b2).1 _ _ (by simp)]; simp [go_sem]
  have a2 : w2.cell? ⟨w.heap.size, 2, none⟩ = some (.int .i64 e1) := by rw [(bcell b2).1 _ _ (by simp)]; simp [go_sem]
  have a3 : w2.cell? ⟨w.heap.size, 3, none⟩ = some (.int .i64 t1) := by rw [(bcell b2).1 _ _ (by simp)]; simp [go_sem]
  have a4 : w2.cell? ⟨w.heap.size, 4, none⟩ = some (.int .i64 d1) := by rw [(bcell b2).1 _ _ (by simp)]; simp [go_sem]
  have a5 : w2.cell? ⟨w.heap.size, 5, none⟩ = some (.string p1) := by rw [(bcell b2).1 _ _ (by simp)]; simp [go_sem]
  have a6 : w2.cell? ⟨w.heap.size, 6, none⟩ = some (.string n1) := by rw [(bcell b2).1 _ _ (by simp)]; simp [go_sem]
  have a7 : w2.cell? ⟨w.heap.size, 7, none⟩ = some (.string v1) := by rw [(bcell b2).1 _ _ (by simp)]; simp [go_sem]
  have a8 : w2.cell? ⟨w.heap.size, 8, none⟩ = some (.bool f1) := by rw [(bcell b2).1 _ _ (by simp)]; simp [go_sem]
  have hs : w.heap.size < w2.heap.size := Nat.lt_of_lt_of_le (by simp) b2.size
  clear b2
  go_wp2_with fail
  go_region
  all_goals go_wp2_with fail
  all_goals
    go_ret
    exact ⟨ret_int (by simp_all), by first | exact B.out.alloc B.out.size _ | exact (B.out.alloc B.out.size _).drew⟩

set_option maxHeartbeats 4000000 in
set_option maxRecDepth 100000 in
theorem check_k5 (i1 e1 t1 d1 : Int) (p1 n1 v1 : ByteArray) (f1 : Bool) (w : World) (b_d b_f b_n b_p b_v bt bv : Bool) (hi1 : 1 ≤ i1) (hi2 : i1 ≤ 1073741824)
    (HI : Hid (∀ W, Calls Tryz.prog 43 #[.int .i64 i1, .int .i64 1, .int .i64 1073741824] W (RetB W true)))
    (HE : Hid (∀ W, Calls Tryz.prog 43 #[.int .i64 e1, .int .i64 0, .int .i64 1125899906842624] W (RetB W true)))
    (HT : Hid (∀ W, Calls Tryz.prog 43 #[.int .i64 t1, .int .i64 1, .int .i64 (i1 - 1)] W (RetB W bt)))
    (x : Int) (HV : Hid (∀ W, Calls Tryz.prog 44 #[.string v1] W (ErrPost W x))) (hx : (x == 0) = bv)
    (q_d : ((d1 : Int) == 0) = b_d)
    (q_p : p1.toList.isEmpty = b_p)
    (q_n : n1.toList.isEmpty = b_n)
    (q_v : v1.toList.isEmpty = b_v)
    (q_f : (!f1) = b_f) :
    Calls Tryz.prog 16 #[.agg #[.int .u8 5, .int .i64 i1, .int .i64 e1, .int .i64 t1, .int .i64 d1, .string p1, .string n1, .string v1, .bool f1]] w (ErrB w (bt && b_d && b_p && b_n && b_v && b_f)) := by
  go_enter Tryz.func16, Tryz.ntmps16
  go_wp2_with fail
  refine (HI.out _).mono ?_
  rintro e w' ⟨rfl, rfl⟩
  go_wp2_with fail
  refine (HE.out _).mono ?_
  rintro e w' ⟨rfl, rfl⟩
  go_wp2_with fail
  refine (HT.out _).mono ?_
  rintro e w' ⟨rfl, rfl⟩
  go_wp2_with fail
  refine (HV.out _).mono ?_
  rintro e w2 ⟨rfl, b2⟩
  have B : Hid (Below w.heap.size w w2) := (own_below _ _).trans (b2.mono (by simp))
  have a0 : w2.cell? ⟨w.heap.size, 0, none⟩ = some (.int .u8 5) := by rw [(bcell b2).1 _ _ (by simp)]; simp [go_sem]
  have a1 : w2.cell? ⟨w.heap.size, 1, none⟩ = some (.int .i64 i1) := by rw [(bcell b2).1 _ _ (by simp)]; simp [go_sem]
  have a2 : w2.cell? ⟨w.heap.size, 2, none⟩ = some (.int .i64 e1) := by rw [(bcell b2).1 _ _ (by simp)]; simp [go_sem]
  have a3 : w2.cell? ⟨w.heap.size, 3, none⟩ = some (.int .i64 t1) := by rw [(bcell b2).1 _ _ (by simp)]; simp [go_sem]
  have a4 : w2.cell? ⟨w.heap.size, 4, none⟩ = some (.int .i64 d1) := by rw [(bcell b2).1 _ _ (by simp)]; simp [go_sem]
  have a5 : w2.cell? ⟨w.heap.size, 5, none⟩ = some (.string p1) := by rw [(bcell b2).1 _ _ (by simp)]; simp [go_sem]
  have a6 : w2.cell? ⟨w.heap.size, 6, none⟩ = some (.string n1) := by rw [(bcell b2).1 _ _ (by simp)]; simp [go_sem]
  have a7 : w2.cell? ⟨w.heap.size, 7, none⟩ = some (.string v1) := by rw [(bcell b2).1 _ _ (by simp)]; simp [go_sem]
  have a8 : w2.cell? ⟨w.heap.size, 8, none⟩ = some (.bool f1) := by rw [(bcell b2).1 _ _ (by simp)]; simp [go_sem]
  have hs : w.heap.size < w2.heap.size := Nat.lt_of_lt_of_le (by simp) b2.size
  clear b2
  go_wp2_with fail
  all_goals
    go_ret
    exact ⟨ret_int (by simp_all), by first | exact B.out.alloc B.out.size _ | exact (B.out.alloc B.out.size _).drew⟩

end Go.Proofs.YtcfgpojogomkhaaGreatDoor

namespace Go.Proofs.YtcfgpojogomkhaaGreatDoor
open Go.RowKit

/-- Whether an event is valid. -/
def valB (x : Ev) : Bool :=
  inB x.id 1 1073741824 && (inB x.entry 0 1125899906842624 && (
    if x.kind = 1 then nmB x.name.data.toList && inB x.date 0 99999 && vlB x.value && (x.target == 0) && x.party.toList.isEmpty && !x.first
    else if x.kind = 2 then nmB x.party.data.toList && nmB x.name.data.toList && inB x.date 0 99999 && (x.target == 0) && x.value.toList.isEmpty
    else if x.kind = 3 then inB x.target 1 (x.id - 1) && vlB x.value && (x.date == 0) && x.party.toList.isEmpty && x.name.toList.isEmpty && !x.first
    else if x.kind = 4 then inB x.target 1 (x.id - 1) && (x.date == 0) && x.party.toList.isEmpty && x.name.toList.isEmpty && x.value.toList.isEmpty
    else if x.kind = 5 then inB x.target 1 (x.id - 1) && (x.date == 0) && x.party.toList.isEmpty && x.name.toList.isEmpty && x.value.toList.isEmpty && !x.first
    else false))

theorem within_is {n a b : Int} {r : Bool} (h : inB n a b = r) : Hid (∀ W, Calls Tryz.prog 43 #[.int .i64 n, .int .i64 a, .int .i64 b] W (RetB W r)) := fun W => h ▸ within_any n a b W
theorem in_is {n a b : Int} {r : Bool} (h : inB n a b = r) : Hid (∀ W, Calls Tryz.prog 55 #[.int .i64 n, .int .i64 a, .int .i64 b] W (RetB W r)) := fun W => h ▸ in_any n a b W
theorem inB_le {n a b : Int} (h : inB n a b = true) : a ≤ n ∧ n ≤ b := by unfold inB at h; simpa using h

set_option maxHeartbeats 2000000 in
set_option maxRecDepth 100000 in
theorem check_id (k1 i1 e1 t1 d1 : Int) (p1 n1 v1 : ByteArray) (f1 : Bool) (w : World)
    (HI : Hid (∀ W, Calls Tryz.prog 43 #[.int .i64 i1, .int .i64 1, .int .i64 1073741824] W (RetB W false))) :
    Calls Tryz.prog 16 #[.agg #[.int .u8 k1, .int .i64 i1, .int .i64 e1, .int .i64 t1, .int .i64 d1, .string p1, .string n1, .string v1, .bool f1]] w (ErrB w false) := by
  go_enter Tryz.func16, Tryz.ntmps16
  go_wp2_with fail
  refine (HI.out _).mono ?_
  rintro e w' ⟨rfl, rfl⟩
  go_wp2
  go_ret
  exact ⟨rfl, own_below _ _⟩

set_option maxHeartbeats 2000000 in
set_option maxRecDepth 100000 in
theorem check_entry (k1 i1 e1 t1 d1 : Int) (p1 n1 v1 : ByteArray) (f1 : Bool) (w : World)
    (HI : Hid (∀ W, Calls Tryz.prog 43 #[.int .i64 i1, .int .i64 1, .int .i64 1073741824] W (RetB W true)))
    (HE : Hid (∀ W, Calls Tryz.prog 43 #[.int .i64 e1, .int .i64 0, .int .i64 1125899906842624] W (RetB W false))) :
    Calls Tryz.prog 16 #[.agg #[.int .u8 k1, .int .i64 i1, .int .i64 e1, .int .i64 t1, .int .i64 d1, .string p1, .string n1, .string v1, .bool f1]] w (ErrB w false) := by
  go_enter Tryz.func16, Tryz.ntmps16
  go_wp2_with fail
  refine (HI.out _).mono ?_
  rintro e w' ⟨rfl, rfl⟩
  go_wp2_with fail
  refine (HE.out _).mono ?_
  rintro e w' ⟨rfl, rfl⟩
  go_wp2
  go_ret
  exact ⟨rfl, own_below _ _⟩

set_option maxHeartbeats 2000000 in
set_option maxRecDepth 100000 in
theorem check_kind (K i1 e1 t1 d1 : Int) (p1 n1 v1 : ByteArray) (f1 : Bool) (w : World) (bt : Bool) (hi1 : 1 ≤ i1) (hi2 : i1 ≤ 1073741824)
    (k1 : (K == 1) = false) (k2 : (K == 2) = false) (k3 : (K == 3) = false) (k4 : (K == 4) = false) (k5 : (K == 5) = false)
    (HI : Hid (∀ W, Calls Tryz.prog 43 #[.int .i64 i1, .int .i64 1, .int .i64 1073741824] W (RetB W true)))
    (HE : Hid (∀ W, Calls Tryz.prog 43 #[.int .i64 e1, .int .i64 0, .int .i64 1125899906842624] W (RetB W true)))
    (HT : Hid (∀ W, Calls Tryz.prog 43 #[.int .i64 t1, .int .i64 1, .int .i64 (i1 - 1)] W (RetB W bt)))
    (x : Int) (HV : Hid (∀ W, Calls Tryz.prog 44 #[.string v1] W (ErrPost W x))) :
    Calls Tryz.prog 16 #[.agg #[.int .u8 K, .int .i64 i1, .int .i64 e1, .int .i64 t1, .int .i64 d1, .string p1, .string n1, .string v1, .bool f1]] w (ErrB w false) := by
  go_enter Tryz.func16, Tryz.ntmps16
  go_wp2_with fail
  refine (HI.out _).mono ?_
  rintro e w' ⟨rfl, rfl⟩
  go_wp2_with fail
  refine (HE.out _).mono ?_
  rintro e w' ⟨rfl, rfl⟩
  go_wp2_with fail
  refine (HT.out _).mono ?_
  rintro e w' ⟨rfl, rfl⟩
  go_wp2_with fail
  refine (HV.out _).mono ?_
  rintro e w2 ⟨rfl, b2⟩
  have B : Hid (Below w.heap.size w w2) := (own_below _ _).trans (b2.mono (by simp))
  have a0 : w2.cell? ⟨w.heap.size, 0, none⟩ = some (.int .u8 K) := by rw [(bcell b2).1 _ _ (by simp)]; simp [go_sem]
  have a1 : w2.cell? ⟨w.heap.size, 1, none⟩ = some (.int .i64 i1) := by rw [(bcell b2).1 _ _ (by simp)]; simp [go_sem]
  have a2 : w2.cell? ⟨w.heap.size, 2, none⟩ = some (.int .i64 e1) := by rw [(bcell b2).1 _ _ (by simp)]; simp [go_sem]
  have hs : w.heap.size < w2.heap.size := Nat.lt_of_lt_of_le (by simp) b2.size
  clear b2
  go_wp2
  go_ret
  exact ⟨rfl, B.out.alloc B.out.size _⟩

theorem beq_no {K n : Int} (h : K ≠ n) : (K == n) = false := by simpa using h

theorem check_ev (x : Ev) (w : World) (hs : x.value.size ≤ 100000) :
    Calls Tryz.prog 16 #[.agg #[.int .u8 x.kind, .int .i64 x.id, .int .i64 x.entry, .int .i64 x.target, .int .i64 x.date, .string x.party, .string x.name, .string x.value, .bool x.first]] w (ErrB w (valB x)) := by
  obtain ⟨K, i1, e1, t1, d1, p1, n1, v1, f1⟩ := x
  unfold valB
  dsimp only at hs ⊢
  cases hi : inB i1 1 1073741824 with
  | false => exact check_id _ _ _ _ _ _ _ _ _ w (within_is hi)
  | true =>
    cases he : inB e1 0 1125899906842624 with
    | false => exact check_entry _ _ _ _ _ _ _ _ _ w (within_is hi) (within_is he)
    | true =>
      obtain ⟨h1, h2⟩ := inB_le hi
      have HI := within_is hi
      have HE := within_is he
      have HT := within_is (n := t1) (a := 1) (b := i1 - 1) rfl
      have HV := Lib.hid (fun W => qrat_any v1 W hs)
      have HN := Lib.hid (fun W => name_any n1 W)
      have HP := Lib.hid (fun W => name_any p1 W)
      have HD := Lib.hid (fun W => day_any d1 W)
      simp only [Bool.true_and]
      by_cases k1 : K = 1
      · subst k1; exact check_k1 i1 e1 t1 d1 p1 n1 v1 f1 w _ _ _ _ _ _ _ h1 h2 HI HE HT _ HV rfl HN HD rfl rfl rfl
      by_cases k2 : K = 2
      · subst k2; exact check_k2 i1 e1 t1 d1 p1 n1 v1 f1 w _ _ _ _ _ _ _ h1 h2 HI HE HT _ HV rfl HP HN HD rfl rfl
      by_cases k3 : K = 3
      · subst k3; exact check_k3 i1 e1 t1 d1 p1 n1 v1 f1 w _ _ _ _ _ _ h1 h2 HI HE HT _ HV rfl rfl rfl rfl rfl
      by_cases k4 : K = 4
      · subst k4; exact check_k4 i1 e1 t1 d1 p1 n1 v1 f1 w _ _ _ _ _ _ h1 h2 HI HE HT _ HV rfl rfl rfl rfl rfl
      by_cases k5 : K = 5
      · subst k5; exact check_k5 i1 e1 t1 d1 p1 n1 v1 f1 w _ _ _ _ _ _ _ h1 h2 HI HE HT _ HV rfl rfl rfl rfl rfl rfl
      rw [if_neg k1, if_neg k2, if_neg k3, if_neg k4, if_neg k5]
      exact check_kind K i1 e1 t1 d1 p1 n1 v1 f1 w _ h1 h2 (beq_no k1) (beq_no k2) (beq_no k3) (beq_no k4) (beq_no k5) HI HE HT _ HV

theorem valid_ev (x : Ev) (w : World) (hs : x.value.size ≤ 100000) :
    Calls Tryz.prog 26 #[.agg #[.int .u8 x.kind, .int .i64 x.id, .int .i64 x.entry, .int .i64 x.target, .int .i64 x.date, .string x.party, .string x.name, .string x.value, .bool x.first]] w (BelB w (valB x)) := by
  obtain ⟨K, i1, e1, t1, d1, p1, n1, v1, f1⟩ := x
  unfold valB
  dsimp only at hs ⊢
  cases hi : inB i1 1 1073741824 with
  | false => exact valid_id _ _ _ _ _ _ _ _ _ w (in_is hi)
  | true =>
    cases he : inB e1 0 1125899906842624 with
    | false => exact valid_entry _ _ _ _ _ _ _ _ _ w (in_is hi) (in_is he)
    | true =>
      obtain ⟨h1, h2⟩ := inB_le hi
      have HI := in_is hi
      have HE := in_is he
      have HT := in_is (n := t1) (a := 1) (b := i1 - 1) rfl
      have HV := Lib.hid (fun W => rvalue_any v1 W hs)
      have HN := Lib.hid (fun W => rname_any n1 W)
      have HP := Lib.hid (fun W => rname_any p1 W)
      have HD := Lib.hid (fun W => rday_any d1 W)
      simp only [Bool.true_and]
      by_cases k1 : K = 1
      · subst k1; exact valid_k1 i1 e1 t1 d1 p1 n1 v1 f1 w _ _ _ _ _ _ _ h1 h2 HI HE HT HN HD HV rfl rfl rfl
      by_cases k2 : K = 2
      · subst k2; exact valid_k2 i1 e1 t1 d1 p1 n1 v1 f1 w _ _ _ _ _ _ h1 h2 HI HE HT HP HN HD rfl rfl
      by_cases k3 : K = 3
      · subst k3; exact valid_k3 i1 e1 t1 d1 p1 n1 v1 f1 w _ _ _ _ _ _ h1 h2 HI HE HT HV rfl rfl rfl rfl
      by_cases k4 : K = 4
      · subst k4; exact valid_k4 i1 e1 t1 d1 p1 n1 v1 f1 w _ _ _ _ _ h1 h2 HI HE HT rfl rfl rfl rfl
      by_cases k5 : K = 5
      · subst k5; exact valid_k5 i1 e1 t1 d1 p1 n1 v1 f1 w _ _ _ _ _ _ h1 h2 HI HE HT rfl rfl rfl rfl rfl
      rw [if_neg k1, if_neg k2, if_neg k3, if_neg k4, if_neg k5]
      exact valid_kind K i1 e1 t1 d1 p1 n1 v1 f1 w _ h1 h2 (beq_no k1) (beq_no k2) (beq_no k3) (beq_no k4) (beq_no k5) HI HE HT

end Go.Proofs.YtcfgpojogomkhaaGreatDoor
