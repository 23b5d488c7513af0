/-
  The program's Check of events walked, by cases. No condition.
-/
import Derived.Test.YtcfgpojogomkhaaEc
import Derived.RegionTactic
namespace Go.Proofs.Ytcfgpojogomkhaa
open Go.RowKit

def ErrB (W : World) (b : Bool) (e : Ending) (w' : World) : Prop := e = .returned (.int .i64 (if b = true then 0 else 8)) ∧ Below W.heap.size W w'

set_option maxHeartbeats 4000000 in
set_option maxRecDepth 100000 in
theorem check_k1 (i1 e1 t1 d1 : Int) (p1 n1 v1 : ByteArray) (f1 : Bool) (w : World) (b_f b_p b_t bd bn bt bv : Bool) (hi1 : 1 ≤ i1) (hi2 : i1 ≤ 1073741824)
    (HI : Hid (∀ W, Calls Try.prog 15 #[.int .i64 i1, .int .i64 1, .int .i64 1073741824] W (RetB W true)))
    (HE : Hid (∀ W, Calls Try.prog 15 #[.int .i64 e1, .int .i64 0, .int .i64 1125899906842624] W (RetB W true)))
    (HT : Hid (∀ W, Calls Try.prog 15 #[.int .i64 t1, .int .i64 1, .int .i64 (i1 - 1)] W (RetB W bt)))
    (x : Int) (HV : Hid (∀ W, Calls Try.prog 16 #[.string v1] W (ErrPost W x))) (hx : (x == 0) = bv)
    (HN : Hid (∀ W, Calls Try.prog 17 #[.string n1] W (RetB W bn)))
    (HD : Hid (∀ W, Calls Try.prog 18 #[.int .i64 d1] W (RetB W bd)))
    (q_t : ((t1 : Int) == 0) = b_t)
    (q_p : p1.toList.isEmpty = b_p)
    (q_f : (!f1) = b_f) :
    Calls Try.prog 9 #[.agg #[.int .u8 1, .int .i64 i1, .int .i64 e1, .int .i64 t1, .int .i64 d1, .string p1, .string n1, .string v1, .bool f1]] w (ErrB w (bn && bd && bv && b_t && b_p && b_f)) := by
  go_enter Try.func9, Try.ntmps9
  go_wp2_with fail
  refine (HI.out _).mono ?_
  rintro e w' ⟨rfl, rfl⟩
  go_wp2_with fail
  refine (HE.out _).mono ?_
  rintro e w' ⟨rfl, rfl⟩
  go_wp2_with fail
  refine (HT.out _).mono ?_
  rintro e w' ⟨rfl, rfl⟩
  go_wp2_with fail
  refine (HV.out _).mono ?_
  rintro e w2 ⟨rfl, b2⟩
  have B : Hid (Below w.heap.size w w2) := (own_below _ _).trans (b2.mono (by simp))
  have a0 : w2.cell? ⟨w.heap.size, 0, none⟩ = some (.int .u8 1) := by rw [(bcell b2).1 _ _ (by simp)]; simp [go_sem]
  have a1 : w2.cell? ⟨w.heap.size, 1, none⟩ = some (.int .i64 i1) := by rw [(bcell b2).1 _ _ (by simp)]; simp [go_sem]
  have a2 : w2.cell? ⟨w.heap.size, 2, none⟩ = some (.int .i64 e1) := by rw [(bcell b2).1 _ _ (by simp)]; simp [go_sem]
  have a3 : w2.cell? ⟨w.heap.size, 3, none⟩ = some (.int .i64 t1) := by rw [(bcell b2).1 _ _ (by simp)]; simp [go_sem]
  have a4 : w2.cell? ⟨w.heap.size, 4, none⟩ = some (.int .i64 d1) := by rw [(bcell b2).1 _ _ (by simp)]; simp [go_sem]
  have a5 : w2.cell? ⟨w.heap.size, 5, none⟩ = some (.string p1) := by rw [(bcell b2).1 _ _ (by simp)]; simp [go_sem]
  have a6 : w2.cell? ⟨w.heap.size, 6, none⟩ = some (.string n1) := by rw [(bcell b2).1 _ _ (by simp)]; simp [go_sem]
  have a7 : w2.cell? ⟨w.heap.size, 7, none⟩ = some (.string v1) := by rw [(bcell b2).1 _ _ (by simp)]; simp [go_sem]
  have a8 : w2.cell? ⟨w.heap.size, 8, none⟩ = some (.bool f1) := by rw [(bcell b2).1 _ _ (by simp)]; simp [go_sem]
  have hs : w.heap.size < w2.heap.size := Nat.lt_of_lt_of_le (by simp) b2.size
  clear b2
  go_wp2_with fail
  refine (HN.out _).mono ?_
  rintro e w' ⟨rfl, rfl⟩
  cases bn with
  | false =>
    go_wp2_with fail
    go_region
    all_goals go_wp2_with fail
    all_goals
      go_ret
      exact ⟨ret_int (by simp_all), by first | exact B.out.alloc B.out.size _ | exact (B.out.alloc B.out.size _).drew⟩
  | true =>
    go_wp2_with fail
    refine (HD.out _).mono ?_
    rintro e w' ⟨rfl, rfl⟩
    cases bd with
    | false =>
      go_wp2_with fail
      go_region
      all_goals go_wp2_with fail
      all_goals
        go_ret
        exact ⟨ret_int (by simp_all), by first | exact B.out.alloc B.out.size _ | exact (B.out.alloc B.out.size _).drew⟩
    | true =>
      go_wp2_with fail
      go_region
      all_goals go_wp2_with fail
      all_goals
        go_ret
        exact ⟨ret_int (by simp_all), by first | exact B.out.alloc B.out.size _ | exact (B.out.alloc B.out.size _).drew⟩

set_option maxHeartbeats 4000000 in
set_option maxRecDepth 100000 in
theorem check_k2 (i1 e1 t1 d1 : Int) (p1 n1 v1 : ByteArray) (f1 : Bool) (w : World) (b_t b_v bd bn bp bt bv : Bool) (hi1 : 1 ≤ i1) (hi2 : i1 ≤ 1073741824)
    (HI : Hid (∀ W, Calls Try.prog 15 #[.int .i64 i1, .int .i64 1, .int .i64 1073741824] W (RetB W true)))
    (HE : Hid (∀ W, Calls Try.prog 15 #[.int .i64 e1, .int .i64 0, .int .i64 1125899906842624] W (RetB W true)))
    (HT : Hid (∀ W, Calls Try.prog 15 #[.int .i64 t1, .int .i64 1, .int .i64 (i1 - 1)] W (RetB W bt)))
    (x : Int) (HV : Hid (∀ W, Calls Try.prog 16 #[.string v1] W (ErrPost W x))) (hx : (x == 0) = bv)
    (HP : Hid (∀ W, Calls Try.prog 17 #[.string p1] W (RetB W bp)))
    (HN : Hid (∀ W, Calls Try.prog 17 #[.string n1] W (RetB W bn)))
    (HD : Hid (∀ W, Calls Try.prog 18 #[.int .i64 d1] W (RetB W bd)))
    (q_t : ((t1 : Int) == 0) = b_t)
    (q_v : v1.toList.isEmpty = b_v) :
    Calls Try.prog 9 #[.agg #[.int .u8 2, .int .i64 i1, .int .i64 e1, .int .i64 t1, .int .i64 d1, .string p1, .string n1, .string v1, .bool f1]] w (ErrB w (bp && bn && bd && b_t && b_v)) := by
  go_enter Try.func9, Try.ntmps9
  go_wp2_with fail
  refine (HI.out _).mono ?_
  rintro e w' ⟨rfl, rfl⟩
  go_wp2_with fail
  refine (HE.out _).mono ?_
  rintro e w' ⟨rfl, rfl⟩
  go_wp2_with fail
  refine (HT.out _).mono ?_
  rintro e w' ⟨rfl, rfl⟩
  go_wp2_with fail
  refine (HV.out _).mono ?_
  rintro e w2 ⟨rfl, b2⟩
  have B : Hid (Below w.heap.size w w2) := (own_below _ _).trans (b2.mono (by simp))
  have a0 : w2.cell? ⟨w.heap.size, 0, none⟩ = some (.int .u8 2) := by rw [(bcell b2).1 _ _ (by simp)]; simp [go_sem]
  have a1 : w2.cell? ⟨w.heap.size, 1, none⟩ = some (.int .i64 i1) := by rw [(bcell b2).1 _ _ (by simp)]; simp [go_sem]
  have a2 : w2.cell? ⟨w.heap.size, 2, none⟩ = some (.int .i64 e1) := by rw [(bcell b2).1 _ _ (by simp)]; simp [go_sem]
  have a3 : w2.cell? ⟨w.heap.size, 3, none⟩ = some (.int .i64 t1) := by rw [(bcell b2).1 _ _ (by simp)]; simp [go_sem]
  have a4 : w2.cell? ⟨w.heap.size, 4, none⟩ = some (.int .i64 d1) := by rw [(bcell b2).1 _ _ (by simp)]; simp [go_sem]
  have a5 : w2.cell? ⟨w.heap.size, 5, none⟩ = some (.string p1) := by rw [(bcell b2).1 _ _ (by simp)]; simp [go_sem]
  have a6 : w2.cell? ⟨w.heap.size, 6, none⟩ = some (.string n1) := by rw [(bcell b2).1 _ _ (by simp)]; simp [go_sem]
  have a7 : w2.cell? ⟨w.heap.size, 7, none⟩ = some (.string v1) := by rw [(bcell b2).1 _ _ (by simp)]; simp [go_sem]
  have a8 : w2.cell? ⟨w.heap.size, 8, none⟩ = some (.bool f1) := by rw [(bcell b2).1 _ _ (by simp)]; simp [go_sem]
  have hs : w.heap.size < w2.heap.size := Nat.lt_of_lt_of_le (by simp) b2.size
  clear b2
  go_wp2_with fail
  refine (HP.out _).mono ?_
  rintro e w' ⟨rfl, rfl⟩
  cases bp with
  | false =>
    go_wp2_with fail
    go_region
    all_goals go_wp2_with fail
    all_goals
      go_ret
      exact ⟨ret_int (by simp_all), by first | exact B.out.alloc B.out.size _ | exact (B.out.alloc B.out.size _).drew⟩
  | true =>
    go_wp2_with fail
    refine (HN.out _).mono ?_
    rintro e w' ⟨rfl, rfl⟩
    cases bn with
    | false =>
      go_wp2_with fail
      go_region
      all_goals go_wp2_with fail
      all_goals
        go_ret
        exact ⟨ret_int (by simp_all), by first | exact B.out.alloc B.out.size _ | exact (B.out.alloc B.out.size _).drew⟩
    | true =>
      go_wp2_with fail
      refine (HD.out _).mono ?_
      rintro e w' ⟨rfl, rfl⟩
      go_wp2_with fail
      go_region
      all_goals go_wp2_with fail
      all_goals
        go_ret
        exact ⟨ret_int (by simp_all), by first | exact B.out.alloc B.out.size _ | exact (B.out.alloc B.out.size _).drew⟩

set_option maxHeartbeats 4000000 in
set_option maxRecDepth 100000 in
theorem check_k3 (i1 e1 t1 d1 : Int) (p1 n1 v1 : ByteArray) (f1 : Bool) (w : World) (b_d b_f b_n b_p bt bv : Bool) (hi1 : 1 ≤ i1) (hi2 : i1 ≤ 1073741824)
    (HI : Hid (∀ W, Calls Try.prog 15 #[.int .i64 i1, .int .i64 1, .int .i64 1073741824] W (RetB W true)))
    (HE : Hid (∀ W, Calls Try.prog 15 #[.int .i64 e1, .int .i64 0, .int .i64 1125899906842624] W (RetB W true)))
    (HT : Hid (∀ W, Calls Try.prog 15 #[.int .i64 t1, .int .i64 1, .int .i64 (i1 - 1)] W (RetB W bt)))
    (x : Int) (HV : Hid (∀ W, Calls Try.prog 16 #[.string v1] W (ErrPost W x))) (hx : (x == 0) = bv)
    (q_d : ((d1 : Int) == 0) = b_d)
    (q_p : p1.toList.isEmpty = b_p)
    (q_n : n1.toList.isEmpty = b_n)
    (q_f : (!f1) = b_f) :
    Calls Try.prog 9 #[.agg #[.int .u8 3, .int .i64 i1, .int .i64 e1, .int .i64 t1, .int .i64 d1, .string p1, .string n1, .string v1, .bool f1]] w (ErrB w (bt && bv && b_d && b_p && b_n && b_f)) := by
  go_enter Try.func9, Try.ntmps9
  go_wp2_with fail
  refine (HI.out _).mono ?_
  rintro e w' ⟨rfl, rfl⟩
  go_wp2_with fail
  refine (HE.out _).mono ?_
  rintro e w' ⟨rfl, rfl⟩
  go_wp2_with fail
  refine (HT.out _).mono ?_
  rintro e w' ⟨rfl, rfl⟩
  go_wp2_with fail
  refine (HV.out _).mono ?_
  rintro e w2 ⟨rfl, b2⟩
  have B : Hid (Below w.heap.size w w2) := (own_below _ _).trans (b2.mono (by simp))
  have a0 : w2.cell? ⟨w.heap.size, 0, none⟩ = some (.int .u8 3) := by rw [(bcell b2).1 _ _ (by simp)]; simp [go_sem]
  have a1 : w2.cell? ⟨w.heap.size, 1, none⟩ = some (.int .i64 i1) := by rw [(bcell b2).1 _ _ (by simp)]; simp [go_sem]
  have a2 : w2.cell? ⟨w.heap.size, 2, none⟩ = some (.int .i64 e1) := by rw [(bcell b2).1 _ _ (by simp)]; simp [go_sem]
  have a3 : w2.cell? ⟨w.heap.size, 3, none⟩ = some (.int .i64 t1) := by rw [(bcell b2).1 _ _ (by simp)]; simp [go_sem]
  have a4 : w2.cell? ⟨w.heap.size, 4, none⟩ = some (.int .i64 d1) := by rw [(bcell b2).1 _ _ (by simp)]; simp [go_sem]
  have a5 : w2.cell? ⟨w.heap.size, 5, none⟩ = some (.string p1) := by rw [(bcell b2).1 _ _ (by simp)]; simp [go_sem]
  have a6 : w2.cell? ⟨w.heap.size, 6, none⟩ = some (.string n1) := by rw [(bcell b2).1 _ _ (by simp)]; simp [go_sem]
  have a7 : w2.cell? ⟨w.heap.size, 7, none⟩ = some (.string v1) := by rw [(bcell b2).1 _ _ (by simp)]; simp [go_sem]
  have a8 : w2.cell? ⟨w.heap.size, 8, none⟩ = some (.bool f1) := by rw [(bcell b2).1 _ _ (by simp)]; simp [go_sem]
  have hs : w.heap.size < w2.heap.size := Nat.lt_of_lt_of_le (by simp) b2.size
  clear b2
  cases bt
  all_goals
    go_wp2_with fail
    go_region
    all_goals go_wp2_with fail
    all_goals
      go_ret
      exact ⟨ret_int (by simp_all), by first | exact B.out.alloc B.out.size _ | exact (B.out.alloc B.out.size _).drew⟩

set_option maxHeartbeats 4000000 in
set_option maxRecDepth 100000 in
theorem check_k4 (i1 e1 t1 d1 : Int) (p1 n1 v1 : ByteArray) (f1 : Bool) (w : World) (b_d b_n b_p b_v bt bv : Bool) (hi1 : 1 ≤ i1) (hi2 : i1 ≤ 1073741824)
    (HI : Hid (∀ W, Calls Try.prog 15 #[.int .i64 i1, .int .i64 1, .int .i64 1073741824] W (RetB W true)))
    (HE : Hid (∀ W, Calls Try.prog 15 #[.int .i64 e1, .int .i64 0, .int .i64 1125899906842624] W (RetB W true)))
    (HT : Hid (∀ W, Calls Try.prog 15 #[.int .i64 t1, .int .i64 1, .int .i64 (i1 - 1)] W (RetB W bt)))
    (x : Int) (HV : Hid (∀ W, Calls Try.prog 16 #[.string v1] W (ErrPost W x))) (hx : (x == 0) = bv)
    (q_d : ((d1 : Int) == 0) = b_d)
    (q_p : p1.toList.isEmpty = b_p)
    (q_n : n1.toList.isEmpty = b_n)
    (q_v : v1.toList.isEmpty = b_v) :
    Calls Try.prog 9 #[.agg #[.int .u8 4, .int .i64 i1, .int .i64 e1, .int .i64 t1, .int .i64 d1, .string p1, .string n1, .string v1, .bool f1]] w (ErrB w (bt && b_d && b_p && b_n && b_v)) := by
  go_enter Try.func9, Try.ntmps9
  go_wp2_with fail
  refine (HI.out _).mono ?_
  rintro e w' ⟨rfl, rfl⟩
  go_wp2_with fail
  refine (HE.out _).mono ?_
  rintro e w' ⟨rfl, rfl⟩
  go_wp2_with fail
  refine (HT.out _).mono ?_
  rintro e w' ⟨rfl, rfl⟩
  go_wp2_with fail
  refine (HV.out _).mono ?_
  rintro e w2 ⟨rfl, b2⟩
  have B : Hid (Below w.heap.size w w2) := (own_below _ _).trans (b2.mono (by simp))
  have a0 : w2.cell? ⟨w.heap.size, 0, none⟩ = some (.int .u8 4) := by rw [(bcell b2).1 _ _ (by simp)]; simp [go_sem]
  have a1 : w2.cell? ⟨w.heap.size, 1, none⟩ = some (.int .i64 i1) := by rw [(bcell b2).1 _ _ (by simp)]; simp [go_sem]
  have a2 : w2.cell? ⟨w.heap.size, 2, none⟩ = some (.int .i64 e1) := by rw [(bcell b2).1 _ _ (by simp)]; simp [go_sem]
  have a3 : w2.cell? ⟨w.heap.size, 3, none⟩ = some (.int .i64 t1) := by rw [(bcell b2).1 _ _ (by simp)]; simp [go_sem]
  have a4 : w2.cell? ⟨w.heap.size, 4, none⟩ = some (.int .i64 d1) := by rw [(bcell b2).1 _ _ (by simp)]; simp [go_sem]
  have a5 : w2.cell? ⟨w.heap.size, 5, none⟩ = some (.string p1) := by rw [(bcell b2).1 _ _ (by simp)]; simp [go_sem]
  have a6 : w2.cell? ⟨w.heap.size, 6, none⟩ = some (.string n1) := by rw [(bcell b2).1 _ _ (by simp)]; simp [go_sem]
  have a7 : w2.cell? ⟨w.heap.size, 7, none⟩ = some (.string v1) := by rw [(bcell b2).1 _ _ (by simp)]; simp [go_sem]
  have a8 : w2.cell? ⟨w.heap.size, 8, none⟩ = some (.bool f1) := by rw [(bcell b2).1 _ _ (by simp)]; simp [go_sem]
  have hs : w.heap.size < w2.heap.size := Nat.lt_of_lt_of_le (by simp) b2.size
  clear b2
  go_wp2_with fail
  go_region
  all_goals go_wp2_with fail
  all_goals
    go_ret
    exact ⟨ret_int (by simp_all), by first | exact B.out.alloc B.out.size _ | exact (B.out.alloc B.out.size _).drew⟩

set_option maxHeartbeats 4000000 in
set_option maxRecDepth 100000 in
theorem check_k5 (i1 e1 t1 d1 : Int) (p1 n1 v1 : ByteArray) (f1 : Bool) (w : World) (b_d b_f b_n b_p b_v bt bv : Bool) (hi1 : 1 ≤ i1) (hi2 : i1 ≤ 1073741824)
    (HI : Hid (∀ W, Calls Try.prog 15 #[.int .i64 i1, .int .i64 1, .int .i64 1073741824] W (RetB W true)))
    (HE : Hid (∀ W, Calls Try.prog 15 #[.int .i64 e1, .int .i64 0, .int .i64 1125899906842624] W (RetB W true)))
    (HT : Hid (∀ W, Calls Try.prog 15 #[.int .i64 t1, .int .i64 1, .int .i64 (i1 - 1)] W (RetB W bt)))
    (x : Int) (HV : Hid (∀ W, Calls Try.prog 16 #[.string v1] W (ErrPost W x))) (hx : (x == 0) = bv)
    (q_d : ((d1 : Int) == 0) = b_d)
    (q_p : p1.toList.isEmpty = b_p)
    (q_n : n1.toList.isEmpty = b_n)
    (q_v : v1.toList.isEmpty = b_v)
    (q_f : (!f1) = b_f) :
    Calls Try.prog 9 #[.agg #[.int .u8 5, .int .i64 i1, .int .i64 e1, .int .i64 t1, .int .i64 d1, .string p1, .string n1, .string v1, .bool f1]] w (ErrB w (bt && b_d && b_p && b_n && b_v && b_f)) := by
  go_enter Try.func9, Try.ntmps9
  go_wp2_with fail
  refine (HI.out _).mono ?_
  rintro e w' ⟨rfl, rfl⟩
  go_wp2_with fail
  refine (HE.out _).mono ?_
  rintro e w' ⟨rfl, rfl⟩
  go_wp2_with fail
  refine (HT.out _).mono ?_
  rintro e w' ⟨rfl, rfl⟩
  go_wp2_with fail
  refine (HV.out _).mono ?_
  rintro e w2 ⟨rfl, b2⟩
  have B : Hid (Below w.heap.size w w2) := (own_below _ _).trans (b2.mono (by simp))
  have a0 : w2.cell? ⟨w.heap.size, 0, none⟩ = some (.int .u8 5) := by rw [(bcell b2).1 _ _ (by simp)]; simp [go_sem]
  have a1 : w2.cell? ⟨w.heap.size, 1, none⟩ = some (.int .i64 i1) := by rw [(bcell b2).1 _ _ (by simp)]; simp [go_sem]
  have a2 : w2.cell? ⟨w.heap.size, 2, none⟩ = some (.int .i64 e1) := by rw [(bcell b2).1 _ _ (by simp)]; simp [go_sem]
  have a3 : w2.cell? ⟨w.heap.size, 3, none⟩ = some (.int .i64 t1) := by rw [(bcell b2).1 _ _ (by simp)]; simp [go_sem]
  have a4 : w2.cell? ⟨w.heap.size, 4, none⟩ = some (.int .i64 d1) := by rw [(bcell b2).1 _ _ (by simp)]; simp [go_sem]
  have a5 : w2.cell? ⟨w.heap.size, 5, none⟩ = some (.string p1) := by rw [(bcell b2).1 _ _ (by simp)]; simp [go_sem]
  have a6 : w2.cell? ⟨w.heap.size, 6, none⟩ = some (.string n1) := by rw [(bcell b2).1 _ _ (by simp)]; simp [go_sem]
  have a7 : w2.cell? ⟨w.heap.size, 7, none⟩ = some (.string v1) := by rw [(bcell b2).1 _ _ (by simp)]; simp [go_sem]
  have a8 : w2.cell? ⟨w.heap.size, 8, none⟩ = some (.bool f1) := by rw [(bcell b2).1 _ _ (by simp)]; simp [go_sem]
  have hs : w.heap.size < w2.heap.size := Nat.lt_of_lt_of_le (by simp) b2.size
  clear b2
  go_wp2_with fail
  all_goals
    go_ret
    exact ⟨ret_int (by simp_all), by first | exact B.out.alloc B.out.size _ | exact (B.out.alloc B.out.size _).drew⟩

end Go.Proofs.Ytcfgpojogomkhaa
