/-
  Ranges, days walked. No condition. The reference's Valid walked, by cases. No condition.
-/
import Derived.Test.YtcfgpojogomkhaaGreatDoorVo
import Derived.Test.YtcfgpojogomkhaaGreatDoorVa
import Derived.Test.YtcfgpojogomkhaaGreatDoorVp
import Derived.Test.YtcfgpojogomkhaaGreatDoorVg
import Derived.Test.YtcfgpojogomkhaaGreatDoorVn
import Derived.RegionTactic
namespace Go.Proofs.YtcfgpojogomkhaaGreatDoor
open Go.RowKit

set_option maxRecDepth 100000 in
theorem within_any (n a b : Int) (w : World) : Calls Tryz.prog 43 #[.int .i64 n, .int .i64 a, .int .i64 b] w (RetB w (inB n a b)) := by
  unfold inB
  cases h1 : decide (a ≤ n) <;> cases h2 : decide (n ≤ b)
  all_goals
    go_enter Tryz.func43, Tryz.ntmps43
    go_wp2
    go_ret
    exact ⟨rfl, rfl⟩
set_option maxRecDepth 100000 in
theorem in_any (n a b : Int) (w : World) : Calls Tryz.prog 55 #[.int .i64 n, .int .i64 a, .int .i64 b] w (RetB w (inB n a b)) := by
  unfold inB
  cases h1 : decide (a ≤ n) <;> cases h2 : decide (n ≤ b)
  all_goals
    go_enter Tryz.func55, Tryz.ntmps55
    go_wp2
    go_ret
    exact ⟨rfl, rfl⟩
set_option maxRecDepth 100000 in
theorem day_any (n : Int) (w : World) : Calls Tryz.prog 46 #[.int .i64 n] w (RetB w (inB n 0 99999)) := by
  have H := Lib.hid (fun W => within_any n 0 99999 W)
  go_enter Tryz.func46, Tryz.ntmps46
  go_wp2_with fail
  refine (H.out _).mono ?_
  rintro e w' ⟨rfl, rfl⟩
  go_wp2
  go_ret
  exact ⟨rfl, rfl⟩
/-- Whether a text is that of a rational. -/
def vlB (s : ByteArray) : Bool := chkR s.data.toList == 0
set_option maxRecDepth 100000 in
theorem rvalue_any (s : ByteArray) (w : World) (hs : s.size ≤ 100000) : Calls Tryz.prog 58 #[.string s] w (BelB w (vlB s)) := by
  have H := Lib.hid (rrat_any s w (by omega))
  unfold vlB
  obtain ⟨x, hx⟩ : ∃ x, x = chkR s.data.toList := ⟨_, rfl⟩
  rw [← hx] at H ⊢
  clear hx
  go_enter Tryz.func58, Tryz.ntmps58
  go_wp2_with fail
  refine H.out.mono ?_
  rintro e w' ⟨rfl, b1⟩
  have B1 := Lib.hid b1
  clear b1
  go_wp2
  go_ret
  exact ⟨rfl, B1.out⟩

end Go.Proofs.YtcfgpojogomkhaaGreatDoor

namespace Go.Proofs.YtcfgpojogomkhaaGreatDoor
open Go.RowKit

set_option maxHeartbeats 2000000 in
set_option maxRecDepth 100000 in
theorem valid_k1 (i1 e1 t1 d1 : Int) (p1 n1 v1 : ByteArray) (f1 : Bool) (w : World) (bt bn bd bv b_t b_p b_f : Bool) (hi1 : 1 ≤ i1) (hi2 : i1 ≤ 1073741824)
    (HI : Hid (∀ W, Calls Tryz.prog 55 #[.int .i64 i1, .int .i64 1, .int .i64 1073741824] W (RetB W true)))
    (HE : Hid (∀ W, Calls Tryz.prog 55 #[.int .i64 e1, .int .i64 0, .int .i64 1125899906842624] W (RetB W true)))
    (HT : Hid (∀ W, Calls Tryz.prog 55 #[.int .i64 t1, .int .i64 1, .int .i64 (i1 - 1)] W (RetB W bt)))
    (HN : Hid (∀ W, Calls Tryz.prog 56 #[.string n1] W (RetB W bn)))
    (HD : Hid (∀ W, Calls Tryz.prog 57 #[.int .i64 d1] W (RetB W bd)))
    (HV : Hid (∀ W, Calls Tryz.prog 58 #[.string v1] W (BelB W bv)))
    (q_t : ((t1 : Int) == 0) = b_t)
    (q_p : p1.toList.isEmpty = b_p)
    (q_f : (!f1) = b_f) :
    Calls Tryz.prog 26 #[.agg #[.int .u8 1, .int .i64 i1, .int .i64 e1, .int .i64 t1, .int .i64 d1, .string p1, .string n1, .string v1, .bool f1]] w (BelB w (bn && bd && bv && b_t && b_p && b_f)) := by
  go_enter Tryz.func26, Tryz.ntmps26
  go_wp2_with fail
  refine (HI.out _).mono ?_
  rintro e w' ⟨rfl, rfl⟩
  go_wp2_with fail
  refine (HE.out _).mono ?_
  rintro e w' ⟨rfl, rfl⟩
  go_wp2_with fail
  refine (HT.out _).mono ?_
  rintro e w' ⟨rfl, rfl⟩
  go_wp2_with fail
  refine (HN.out _).mono ?_
  rintro e w' ⟨rfl, rfl⟩
  cases bn with
  | false =>
    go_wp2
    go_ret
    exact ⟨ret_bool (by first | rfl | simp), own_below _ _⟩
  | true =>
    go_wp2_with fail
    refine (HD.out _).mono ?_
    rintro e w' ⟨rfl, rfl⟩
    cases bd with
    | false =>
      go_wp2
      go_ret
      exact ⟨ret_bool (by first | rfl | simp), own_below _ _⟩
    | true =>
      go_wp2_with fail
      refine (HV.out _).mono ?_
      rintro e w2 ⟨rfl, b2⟩
      have B := Lib.hid b2
      have a0 : w2.cell? ⟨w.heap.size, 0, none⟩ = some (.int .u8 1) := by rw [(bcell b2).1 _ _ (by simp)]; simp [go_sem]
      have a1 : w2.cell? ⟨w.heap.size, 1, none⟩ = some (.int .i64 i1) := by rw [(bcell b2).1 _ _ (by simp)]; simp [go_sem]
      have a2 : w2.cell? ⟨w.heap.size, 2, none⟩ = some (.int .i64 e1) := by rw [(bcell b2).1 _ _ (by simp)]; simp [go_sem]
      have a3 : w2.cell? ⟨w.heap.size, 3, none⟩ = some (.int .i64 t1) := by rw [(bcell b2).1 _ _ (by simp)]; simp [go_sem]
      have a4 : w2.cell? ⟨w.heap.size, 4, none⟩ = some (.int .i64 d1) := by rw [(bcell b2).1 _ _ (by simp)]; simp [go_sem]
      have a5 : w2.cell? ⟨w.heap.size, 5, none⟩ = some (.string p1) := by rw [(bcell b2).1 _ _ (by simp)]; simp [go_sem]
      have a6 : w2.cell? ⟨w.heap.size, 6, none⟩ = some (.string n1) := by rw [(bcell b2).1 _ _ (by simp)]; simp [go_sem]
      have a7 : w2.cell? ⟨w.heap.size, 7, none⟩ = some (.string v1) := by rw [(bcell b2).1 _ _ (by simp)]; simp [go_sem]
      have a8 : w2.cell? ⟨w.heap.size, 8, none⟩ = some (.bool f1) := by rw [(bcell b2).1 _ _ (by simp)]; simp [go_sem]
      clear b2
      cases bv with
      | false =>
        go_wp2
        go_ret
        exact ⟨ret_bool (by first | rfl | simp), (own_below _ _).trans (B.out.mono (by simp))⟩
      | true =>
        cases b_t with
        | false =>
          go_wp2
          go_ret
          exact ⟨ret_bool (by first | rfl | simp), (own_below _ _).trans (B.out.mono (by simp))⟩
        | true =>
          cases b_p with
          | false =>
            go_wp2
            go_ret
            exact ⟨ret_bool (by first | rfl | simp), (own_below _ _).trans (B.out.mono (by simp))⟩
          | true =>
            cases b_f
            all_goals
              go_wp2
              go_ret
              exact ⟨ret_bool (by first | rfl | simp), (own_below _ _).trans (B.out.mono (by simp))⟩

set_option maxHeartbeats 2000000 in
set_option maxRecDepth 100000 in
theorem valid_k2 (i1 e1 t1 d1 : Int) (p1 n1 v1 : ByteArray) (f1 : Bool) (w : World) (bt bp bn bd b_t b_v : Bool) (hi1 : 1 ≤ i1) (hi2 : i1 ≤ 1073741824)
    (HI : Hid (∀ W, Calls Tryz.prog 55 #[.int .i64 i1, .int .i64 1, .int .i64 1073741824] W (RetB W true)))
    (HE : Hid (∀ W, Calls Tryz.prog 55 #[.int .i64 e1, .int .i64 0, .int .i64 1125899906842624] W (RetB W true)))
    (HT : Hid (∀ W, Calls Tryz.prog 55 #[.int .i64 t1, .int .i64 1, .int .i64 (i1 - 1)] W (RetB W bt)))
    (HP : Hid (∀ W, Calls Tryz.prog 56 #[.string p1] W (RetB W bp)))
    (HN : Hid (∀ W, Calls Tryz.prog 56 #[.string n1] W (RetB W bn)))
    (HD : Hid (∀ W, Calls Tryz.prog 57 #[.int .i64 d1] W (RetB W bd)))
    (q_t : ((t1 : Int) == 0) = b_t)
    (q_v : v1.toList.isEmpty = b_v) :
    Calls Tryz.prog 26 #[.agg #[.int .u8 2, .int .i64 i1, .int .i64 e1, .int .i64 t1, .int .i64 d1, .string p1, .string n1, .string v1, .bool f1]] w (BelB w (bp && bn && bd && b_t && b_v)) := by
  go_enter Tryz.func26, Tryz.ntmps26
  go_wp2_with fail
  refine (HI.out _).mono ?_
  rintro e w' ⟨rfl, rfl⟩
  go_wp2_with fail
  refine (HE.out _).mono ?_
  rintro e w' ⟨rfl, rfl⟩
  go_wp2_with fail
  refine (HT.out _).mono ?_
  rintro e w' ⟨rfl, rfl⟩
  go_wp2_with fail
  refine (HP.out _).mono ?_
  rintro e w' ⟨rfl, rfl⟩
  cases bp with
  | false =>
    go_wp2
    go_ret
    exact ⟨ret_bool (by first | rfl | simp), own_below _ _⟩
  | true =>
    go_wp2_with fail
    refine (HN.out _).mono ?_
    rintro e w' ⟨rfl, rfl⟩
    cases bn with
    | false =>
      go_wp2
      go_ret
      exact ⟨ret_bool (by first | rfl | simp), own_below _ _⟩
    | true =>
      go_wp2_with fail
      refine (HD.out _).mono ?_
      rintro e w' ⟨rfl, rfl⟩
      cases bd with
      | false =>
        go_wp2
        go_ret
        exact ⟨ret_bool (by first | rfl | simp), own_below _ _⟩
      | true =>
        cases b_t with
        | false =>
          go_wp2
          go_ret
          exact ⟨ret_bool (by first | rfl | simp), own_below _ _⟩
        | true =>
          cases b_v
          all_goals
            go_wp2
            go_ret
            exact ⟨ret_bool (by first | rfl | simp), own_below _ _⟩

set_option maxHeartbeats 2000000 in
set_option maxRecDepth 100000 in
theorem valid_k3 (i1 e1 t1 d1 : Int) (p1 n1 v1 : ByteArray) (f1 : Bool) (w : World) (bt bv b_d b_p b_n b_f : Bool) (hi1 : 1 ≤ i1) (hi2 : i1 ≤ 1073741824)
    (HI : Hid (∀ W, Calls Tryz.prog 55 #[.int .i64 i1, .int .i64 1, .int .i64 1073741824] W (RetB W true)))
    (HE : Hid (∀ W, Calls Tryz.prog 55 #[.int .i64 e1, .int .i64 0, .int .i64 1125899906842624] W (RetB W true)))
    (HT : Hid (∀ W, Calls Tryz.prog 55 #[.int .i64 t1, .int .i64 1, .int .i64 (i1 - 1)] W (RetB W bt)))
    (HV : Hid (∀ W, Calls Tryz.prog 58 #[.string v1] W (BelB W bv)))
    (q_d : ((d1 : Int) == 0) = b_d)
    (q_p : p1.toList.isEmpty = b_p)
    (q_n : n1.toList.isEmpty = b_n)
    (q_f : (!f1) = b_f) :
    Calls Tryz.prog 26 #[.agg #[.int .u8 3, .int .i64 i1, .int .i64 e1, .int .i64 t1, .int .i64 d1, .string p1, .string n1, .string v1, .bool f1]] w (BelB w (bt && bv && b_d && b_p && b_n && b_f)) := by
  go_enter Tryz.func26, Tryz.ntmps26
  go_wp2_with fail
  refine (HI.out _).mono ?_
  rintro e w' ⟨rfl, rfl⟩
  go_wp2_with fail
  refine (HE.out _).mono ?_
  rintro e w' ⟨rfl, rfl⟩
  go_wp2_with fail
  refine (HT.out _).mono ?_
  rintro e w' ⟨rfl, rfl⟩
  cases bt with
  | false =>
    go_wp2
    go_ret
    exact ⟨ret_bool (by first | rfl | simp), own_below _ _⟩
  | true =>
    go_wp2_with fail
    refine (HV.out _).mono ?_
    rintro e w2 ⟨rfl, b2⟩
    have B := Lib.hid b2
    have a0 : w2.cell? ⟨w.heap.size, 0, none⟩ = some (.int .u8 3) := by rw [(bcell b2).1 _ _ (by simp)]; simp [go_sem]
    have a1 : w2.cell? ⟨w.heap.size, 1, none⟩ = some (.int .i64 i1) := by rw [(bcell b2).1 _ _ (by simp)]; simp [go_sem]
    have a2 : w2.cell? ⟨w.heap.size, 2, none⟩ = some (.int .i64 e1) := by rw [(bcell b2).1 _ _ (by simp)]; simp [go_sem]
    have a3 : w2.cell? ⟨w.heap.size, 3, none⟩ = some (.int .i64 t1) := by rw [(bcell b2).1 _ _ (by simp)]; simp [go_sem]
    have a4 : w2.cell? ⟨w.heap.size, 4, none⟩ = some (.int .i64 d1) := by rw [(bcell b2).1 _ _ (by simp)]; simp [go_sem]
    have a5 : w2.cell? ⟨w.heap.size, 5, none⟩ = some (.string p1) := by rw [(bcell b2).1 _ _ (by simp)]; simp [go_sem]
    have a6 : w2.cell? ⟨w.heap.size, 6, none⟩ = some (.string n1) := by rw [(bcell b2).1 _ _ (by simp)]; simp [go_sem]
    have a7 : w2.cell? ⟨w.heap.size, 7, none⟩ = some (.string v1) := by rw [(bcell b2).1 _ _ (by simp)]; simp [go_sem]
    have a8 : w2.cell? ⟨w.heap.size, 8, none⟩ = some (.bool f1) := by rw [(bcell b2).1 _ _ (by simp)]; simp [go_sem]
    clear b2
    cases bv with
    | false =>
      go_wp2
      go_ret
      exact ⟨ret_bool (by first | rfl | simp), (own_below _ _).trans (B.out.mono (by simp))⟩
    | true =>
      cases b_d with
      | false =>
        go_wp2
        go_ret
        exact ⟨ret_bool (by first | rfl | simp), (own_below _ _).trans (B.out.mono (by simp))⟩
      | true =>
        cases b_p with
        | false =>
          go_wp2
          go_ret
          exact ⟨ret_bool (by first | rfl | simp), (own_below _ _).trans (B.out.mono (by simp))⟩
        | true =>
          cases b_n with
          | false =>
            go_wp2
            go_ret
            exact ⟨ret_bool (by first | rfl | simp), (own_below _ _).trans (B.out.mono (by simp))⟩
          | true =>
            cases b_f
            all_goals
              go_wp2
              go_ret
              exact ⟨ret_bool (by first | rfl | simp), (own_below _ _).trans (B.out.mono (by simp))⟩

set_option maxHeartbeats 2000000 in
set_option maxRecDepth 100000 in
theorem valid_k4 (i1 e1 t1 d1 : Int) (p1 n1 v1 : ByteArray) (f1 : Bool) (w : World) (bt b_d b_p b_n b_v : Bool) (hi1 : 1 ≤ i1) (hi2 : i1 ≤ 1073741824)
    (HI : Hid (∀ W, Calls Tryz.prog 55 #[.int .i64 i1, .int .i64 1, .int .i64 1073741824] W (RetB W true)))
    (HE : Hid (∀ W, Calls Tryz.prog 55 #[.int .i64 e1, .int .i64 0, .int .i64 1125899906842624] W (RetB W true)))
    (HT : Hid (∀ W, Calls Tryz.prog 55 #[.int .i64 t1, .int .i64 1, .int .i64 (i1 - 1)] W (RetB W bt)))
    (q_d : ((d1 : Int) == 0) = b_d)
    (q_p : p1.toList.isEmpty = b_p)
    (q_n : n1.toList.isEmpty = b_n)
    (q_v : v1.toList.isEmpty = b_v) :
    Calls Tryz.prog 26 #[.agg #[.int .u8 4, .int .i64 i1, .int .i64 e1, .int .i64 t1, .int .i64 d1, .string p1, .string n1, .string v1, .bool f1]] w (BelB w (bt && b_d && b_p && b_n && b_v)) := by
  go_enter Tryz.func26, Tryz.ntmps26
  go_wp2_with fail
  refine (HI.out _).mono ?_
  rintro e w' ⟨rfl, rfl⟩
  go_wp2_with fail
  refine (HE.out _).mono ?_
  rintro e w' ⟨rfl, rfl⟩
  go_wp2_with fail
  refine (HT.out _).mono ?_
  rintro e w' ⟨rfl, rfl⟩
  cases bt with
  | false =>
    go_wp2
    go_ret
    exact ⟨ret_bool (by first | rfl | simp), own_below _ _⟩
  | true =>
    cases b_d with
    | false =>
      go_wp2
      go_ret
      exact ⟨ret_bool (by first | rfl | simp), own_below _ _⟩
    | true =>
      cases b_p with
      | false =>
        go_wp2
        go_ret
        exact ⟨ret_bool (by first | rfl | simp), own_below _ _⟩
      | true =>
        cases b_n with
        | false =>
          go_wp2
          go_ret
          exact ⟨ret_bool (by first | rfl | simp), own_below _ _⟩
        | true =>
          cases b_v
          all_goals
            go_wp2
            go_ret
            exact ⟨ret_bool (by first | rfl | simp), own_below _ _⟩

set_option maxHeartbeats 2000000 in
set_option maxRecDepth 100000 in
theorem valid_k5 (i1 e1 t1 d1 : Int) (p1 n1 v1 : ByteArray) (f1 : Bool) (w : World) (bt b_d b_p b_n b_v b_f : Bool) (hi1 : 1 ≤ i1) (hi2 : i1 ≤ 1073741824)
    (HI : Hid (∀ W, Calls Tryz.prog 55 #[.int .i64 i1, .int .i64 1, .int .i64 1073741824] W (RetB W true)))
    (HE : Hid (∀ W, Calls Tryz.prog 55 #[.int .i64 e1, .int .i64 0, .int .i64 1125899906842624] W (RetB W true)))
    (HT : Hid (∀ W, Calls Tryz.prog 55 #[.int .i64 t1, .int .i64 1, .int .i64 (i1 - 1)] W (RetB W bt)))
    (q_d : ((d1 : Int) == 0) = b_d)
    (q_p : p1.toList.isEmpty = b_p)
    (q_n : n1.toList.isEmpty = b_n)
    (q_v : v1.toList.isEmpty = b_v)
    (q_f : (!f1) = b_f) :
    Calls Tryz.prog 26 #[.agg #[.int .u8 5, .int .i64 i1, .int .i64 e1, .int .i64 t1, .int .i64 d1, .string p1, .string n1, .string v1, .bool f1]] w (BelB w (bt && b_d && b_p && b_n && b_v && b_f)) := by
  go_enter Tryz.func26, Tryz.ntmps26
  go_wp2_with fail
  refine (HI.out _).mono ?_
  rintro e w' ⟨rfl, rfl⟩
  go_wp2_with fail
  refine (HE.out _).mono ?_
  rintro e w' ⟨rfl, rfl⟩
  go_wp2_with fail
  refine (HT.out _).mono ?_
  rintro e w' ⟨rfl, rfl⟩
  cases bt with
  | false =>
    go_wp2
    go_ret
    exact ⟨ret_bool (by first | rfl | simp), own_below _ _⟩
  | true =>
    cases b_d with
    | false =>
      go_wp2
      go_ret
      exact ⟨ret_bool (by first | rfl | simp), own_below _ _⟩
    | true =>
      cases b_p with
      | false =>
        go_wp2
        go_ret
        exact ⟨ret_bool (by first | rfl | simp), own_below _ _⟩
      | true =>
        cases b_n with
        | false =>
          go_wp2
          go_ret
          exact ⟨ret_bool (by first | rfl | simp), own_below _ _⟩
        | true =>
          cases b_v with
          | false =>
            go_wp2
            go_ret
            exact ⟨ret_bool (by first | rfl | simp), own_below _ _⟩
          | true =>
            cases b_f
            all_goals
              go_wp2
              go_ret
              exact ⟨ret_bool (by first | rfl | simp), own_below _ _⟩

set_option maxHeartbeats 2000000 in
set_option maxRecDepth 100000 in
theorem valid_id (K : Int) (i1 e1 t1 d1 : Int) (p1 n1 v1 : ByteArray) (f1 : Bool) (w : World)
    (HI : Hid (∀ W, Calls Tryz.prog 55 #[.int .i64 i1, .int .i64 1, .int .i64 1073741824] W (RetB W false))) :
    Calls Tryz.prog 26 #[.agg #[.int .u8 K, .int .i64 i1, .int .i64 e1, .int .i64 t1, .int .i64 d1, .string p1, .string n1, .string v1, .bool f1]] w (BelB w false) := by
  go_enter Tryz.func26, Tryz.ntmps26
  go_wp2_with fail
  refine (HI.out _).mono ?_
  rintro e w' ⟨rfl, rfl⟩
  go_wp2
  go_ret
  exact ⟨rfl, own_below _ _⟩

set_option maxHeartbeats 2000000 in
set_option maxRecDepth 100000 in
theorem valid_entry (K : Int) (i1 e1 t1 d1 : Int) (p1 n1 v1 : ByteArray) (f1 : Bool) (w : World)
    (HI : Hid (∀ W, Calls Tryz.prog 55 #[.int .i64 i1, .int .i64 1, .int .i64 1073741824] W (RetB W true)))
    (HE : Hid (∀ W, Calls Tryz.prog 55 #[.int .i64 e1, .int .i64 0, .int .i64 1125899906842624] W (RetB W false))) :
    Calls Tryz.prog 26 #[.agg #[.int .u8 K, .int .i64 i1, .int .i64 e1, .int .i64 t1, .int .i64 d1, .string p1, .string n1, .string v1, .bool f1]] w (BelB w false) := by
  go_enter Tryz.func26, Tryz.ntmps26
  go_wp2_with fail
  refine (HI.out _).mono ?_
  rintro e w' ⟨rfl, rfl⟩
  go_wp2_with fail
  refine (HE.out _).mono ?_
  rintro e w' ⟨rfl, rfl⟩
  go_wp2
  go_ret
  exact ⟨rfl, own_below _ _⟩

set_option maxHeartbeats 2000000 in
set_option maxRecDepth 100000 in
theorem valid_kind (K : Int) (i1 e1 t1 d1 : Int) (p1 n1 v1 : ByteArray) (f1 : Bool) (w : World) (bt : Bool) (hi1 : 1 ≤ i1) (hi2 : i1 ≤ 1073741824)
    (k1 : (K == 1) = false) (k2 : (K == 2) = false) (k3 : (K == 3) = false) (k4 : (K == 4) = false) (k5 : (K == 5) = false)
    (HI : Hid (∀ W, Calls Tryz.prog 55 #[.int .i64 i1, .int .i64 1, .int .i64 1073741824] W (RetB W true)))
    (HE : Hid (∀ W, Calls Tryz.prog 55 #[.int .i64 e1, .int .i64 0, .int .i64 1125899906842624] W (RetB W true)))
    (HT : Hid (∀ W, Calls Tryz.prog 55 #[.int .i64 t1, .int .i64 1, .int .i64 (i1 - 1)] W (RetB W bt))) :
    Calls Tryz.prog 26 #[.agg #[.int .u8 K, .int .i64 i1, .int .i64 e1, .int .i64 t1, .int .i64 d1, .string p1, .string n1, .string v1, .bool f1]] w (BelB w false) := by
  go_enter Tryz.func26, Tryz.ntmps26
  go_wp2_with fail
  refine (HI.out _).mono ?_
  rintro e w' ⟨rfl, rfl⟩
  go_wp2_with fail
  refine (HE.out _).mono ?_
  rintro e w' ⟨rfl, rfl⟩
  go_wp2_with fail
  refine (HT.out _).mono ?_
  rintro e w' ⟨rfl, rfl⟩
  go_wp2
  go_ret
  exact ⟨rfl, own_below _ _⟩

end Go.Proofs.YtcfgpojogomkhaaGreatDoor
