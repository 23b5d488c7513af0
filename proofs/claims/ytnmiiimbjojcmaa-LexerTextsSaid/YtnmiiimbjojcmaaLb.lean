/-
  The program's Check of tokens, the reference's Valid: walked by cases. No condition.
-/
import Derived.Test.YtnmiiimbjojcmaaLa
import Derived.Test.YtnmiiimbjojcmaaIj
import Derived.Test.YtnmiiimbjojcmaaNh
import Derived.Test.YtnmiiimbjojcmaaDb
import Derived.RegionTactic
namespace Go.Proofs.Ytnmiiimbjojcmaa
open Go.RowKit

def ErrB (W : World) (b : Bool) (e : Ending) (w' : World) : Prop := e = .returned (.int .i64 (if b = true then 0 else 8)) ∧ Below W.heap.size W w'
theorem own2_below (w : World) (o1 o2 : Obj) : Below w.heap.size w ((w.alloc o1).alloc o2) := (own_below _ _).trans ((own_below _ _).mono (by simp))

set_option maxHeartbeats 4000000 in
set_option maxRecDepth 100000 in
theorem valid_k1 (t1 r1 : ByteArray) (d1 z1 : Int) (w : World) (bn b_a1 b_a2 b_r b_d : Bool)
    (q_a1 : decide ((0 : Int) ≤ z1) = b_a1)
    (q_a2 : decide (z1 ≤ 20000) = b_a2)
    (q_r : r1.toList.isEmpty = b_r)
    (q_d : ((d1 : Int) == 0) = b_d)
    (HN : Hid (∀ W, Calls Try.prog 17 #[.string t1] W (RetB W bn))) :
    Calls Try.prog 8 #[.agg #[.int .u8 1, .string t1, .string r1, .int .i64 d1, .int .i64 z1]] w (BelB w (bn && b_r && b_d && b_a1 && b_a2)) := by
  go_enter Try.func8, Try.ntmps8
  go_wp2_with fail
  go_quiet (fail)
  go_wp2_with fail
  refine (HN.out _).mono ?_
  rintro e w' ⟨rfl, rfl⟩
  cases bn
  all_goals
    go_wp2_with fail
    all_goals
      go_ret
      exact ⟨ret_bool (by simp_all), by first | exact below_drewN (own_below _ _) _ | exact B.out⟩

set_option maxHeartbeats 4000000 in
set_option maxRecDepth 100000 in
theorem check_k1 (t1 r1 : ByteArray) (d1 z1 : Int) (w : World) (bn b_a1 b_a2 b_r b_d : Bool)
    (q_a1 : decide ((0 : Int) ≤ z1) = b_a1)
    (q_a2 : decide (z1 ≤ 20000) = b_a2)
    (q_r : r1.toList.isEmpty = b_r)
    (q_d : ((d1 : Int) == 0) = b_d)
    (HN : Hid (∀ W, Calls Try.prog 14 #[.string t1] W (RetB W bn))) :
    Calls Try.prog 7 #[.agg #[.int .u8 1, .string t1, .string r1, .int .i64 d1, .int .i64 z1]] w (ErrB w (bn && b_r && b_d && b_a1 && b_a2)) := by
  go_enter Try.func7, Try.ntmps7
  cases b_a1 with
  | false =>
    go_wp2_with fail
    all_goals
      go_ret
      exact ⟨ret_int (by simp_all), by first | exact own2_below _ _ _ | exact B.out | exact B.out.setCell (Nat.le_succ _) _⟩
  | true =>
    cases b_a2 with
    | false =>
      go_wp2_with fail
      all_goals
        go_ret
        exact ⟨ret_int (by simp_all), by first | exact own2_below _ _ _ | exact B.out | exact B.out.setCell (Nat.le_succ _) _⟩
    | true =>
      go_wp2_with fail
      refine (HN.out _).mono ?_
      rintro e w' ⟨rfl, rfl⟩
      cases bn
      all_goals
        go_wp2_with fail
        all_goals
          go_ret
          exact ⟨ret_int (by simp_all), by first | exact own2_below _ _ _ | exact B.out | exact B.out.setCell (Nat.le_succ _) _⟩

set_option maxHeartbeats 4000000 in
set_option maxRecDepth 100000 in
theorem valid_k2 (t1 r1 : ByteArray) (d1 z1 : Int) (w : World) (bn b_a1 b_a2 b_r b_d : Bool)
    (q_a1 : decide ((0 : Int) ≤ z1) = b_a1)
    (q_a2 : decide (z1 ≤ 20000) = b_a2)
    (q_r : r1.toList.isEmpty = b_r)
    (q_d : ((d1 : Int) == 0) = b_d)
    (HN : Hid (∀ W, Calls Try.prog 17 #[.string t1] W (RetB W bn))) :
    Calls Try.prog 8 #[.agg #[.int .u8 2, .string t1, .string r1, .int .i64 d1, .int .i64 z1]] w (BelB w (bn && b_r && b_d && b_a1 && b_a2)) := by
  go_enter Try.func8, Try.ntmps8
  go_wp2_with fail
  go_quiet (fail)
  go_wp2_with fail
  refine (HN.out _).mono ?_
  rintro e w' ⟨rfl, rfl⟩
  cases bn
  all_goals
    go_wp2_with fail
    all_goals
      go_ret
      exact ⟨ret_bool (by simp_all), by first | exact below_drewN (own_below _ _) _ | exact B.out⟩

set_option maxHeartbeats 4000000 in
set_option maxRecDepth 100000 in
theorem check_k2 (t1 r1 : ByteArray) (d1 z1 : Int) (w : World) (bn b_a1 b_a2 b_r b_d : Bool)
    (q_a1 : decide ((0 : Int) ≤ z1) = b_a1)
    (q_a2 : decide (z1 ≤ 20000) = b_a2)
    (q_r : r1.toList.isEmpty = b_r)
    (q_d : ((d1 : Int) == 0) = b_d)
    (HN : Hid (∀ W, Calls Try.prog 14 #[.string t1] W (RetB W bn))) :
    Calls Try.prog 7 #[.agg #[.int .u8 2, .string t1, .string r1, .int .i64 d1, .int .i64 z1]] w (ErrB w (bn && b_r && b_d && b_a1 && b_a2)) := by
  go_enter Try.func7, Try.ntmps7
  cases b_a1 with
  | false =>
    go_wp2_with fail
    all_goals
      go_ret
      exact ⟨ret_int (by simp_all), by first | exact own2_below _ _ _ | exact B.out | exact B.out.setCell (Nat.le_succ _) _⟩
  | true =>
    cases b_a2 with
    | false =>
      go_wp2_with fail
      all_goals
        go_ret
        exact ⟨ret_int (by simp_all), by first | exact own2_below _ _ _ | exact B.out | exact B.out.setCell (Nat.le_succ _) _⟩
    | true =>
      go_wp2_with fail
      refine (HN.out _).mono ?_
      rintro e w' ⟨rfl, rfl⟩
      cases bn
      all_goals
        go_wp2_with fail
        all_goals
          go_ret
          exact ⟨ret_int (by simp_all), by first | exact own2_below _ _ _ | exact B.out | exact B.out.setCell (Nat.le_succ _) _⟩

set_option maxHeartbeats 4000000 in
set_option maxRecDepth 100000 in
theorem valid_k3 (t1 r1 : ByteArray) (d1 z1 : Int) (w : World) (bv b_a1 b_a2 b_t b_d : Bool)
    (q_a1 : decide ((0 : Int) ≤ z1) = b_a1)
    (q_a2 : decide (z1 ≤ 20000) = b_a2)
    (q_t : t1.toList.isEmpty = b_t)
    (q_d : ((d1 : Int) == 0) = b_d)
    (b_r : Bool) (q_r : r1.toList.isEmpty = b_r) (x : Int) (HV : Hid (∀ W, Calls Try.prog 19 #[.string r1] W (ErrPost W x))) (hx : (x == 0) = bv) :
    Calls Try.prog 8 #[.agg #[.int .u8 3, .string t1, .string r1, .int .i64 d1, .int .i64 z1]] w (BelB w (b_t && bv && b_d && b_a1 && b_a2)) := by
  go_enter Try.func8, Try.ntmps8
  go_wp2_with fail
  go_quiet (fail)
  go_wp2_with fail
  refine (HV.out _).mono ?_
  rintro e w2 ⟨rfl, b2⟩
  have B : Hid (Below w.heap.size w w2) := (below_drewN (own_below _ _) _).trans (b2.mono (by simp <;> omega))
  have a0 : w2.cell? ⟨w.heap.size, 0, none⟩ = some (.int .u8 3) := by rw [(bcell b2).1 _ _ (by simp <;> omega)]; simp [go_sem]
  have a1 : w2.cell? ⟨w.heap.size, 1, none⟩ = some (.string t1) := by rw [(bcell b2).1 _ _ (by simp <;> omega)]; simp [go_sem]
  have a2 : w2.cell? ⟨w.heap.size, 2, none⟩ = some (.string r1) := by rw [(bcell b2).1 _ _ (by simp <;> omega)]; simp [go_sem]
  have a3 : w2.cell? ⟨w.heap.size, 3, none⟩ = some (.int .i64 d1) := by rw [(bcell b2).1 _ _ (by simp <;> omega)]; simp [go_sem]
  have a4 : w2.cell? ⟨w.heap.size, 4, none⟩ = some (.int .i64 z1) := by rw [(bcell b2).1 _ _ (by simp <;> omega)]; simp [go_sem]
  clear b2
  go_wp2_with fail
  all_goals
    go_ret
    exact ⟨ret_bool (by simp_all), by first | exact below_drewN (own_below _ _) _ | exact B.out⟩

set_option maxHeartbeats 4000000 in
set_option maxRecDepth 100000 in
theorem check_k3 (t1 r1 : ByteArray) (d1 z1 : Int) (w : World) (bv b_a1 b_a2 b_t b_d : Bool)
    (q_a1 : decide ((0 : Int) ≤ z1) = b_a1)
    (q_a2 : decide (z1 ≤ 20000) = b_a2)
    (q_t : t1.toList.isEmpty = b_t)
    (q_d : ((d1 : Int) == 0) = b_d)
    (x : Int) (HV : Hid (∀ W, Calls Try.prog 16 #[.string r1] W (ErrPost W x))) (hx : (x == 0) = bv) :
    Calls Try.prog 7 #[.agg #[.int .u8 3, .string t1, .string r1, .int .i64 d1, .int .i64 z1]] w (ErrB w (b_t && bv && b_d && b_a1 && b_a2)) := by
  go_enter Try.func7, Try.ntmps7
  cases b_a1 with
  | false =>
    go_wp2_with fail
    all_goals
      go_ret
      exact ⟨ret_int (by simp_all), by first | exact own2_below _ _ _ | exact B.out | exact B.out.setCell (Nat.le_succ _) _⟩
  | true =>
    cases b_a2 with
    | false =>
      go_wp2_with fail
      all_goals
        go_ret
        exact ⟨ret_int (by simp_all), by first | exact own2_below _ _ _ | exact B.out | exact B.out.setCell (Nat.le_succ _) _⟩
    | true =>
      go_wp2_with fail
      refine (HV.out _).mono ?_
      rintro e w2 ⟨rfl, b2⟩
      have B : Hid (Below w.heap.size w w2) := (own2_below _ _ _).trans (b2.mono (by simp <;> omega))
      have a0 : w2.cell? ⟨w.heap.size, 0, none⟩ = some (.int .u8 3) := by rw [(bcell b2).1 _ _ (by simp <;> omega)]; simp [go_sem]
      have a1 : w2.cell? ⟨w.heap.size, 1, none⟩ = some (.string t1) := by rw [(bcell b2).1 _ _ (by simp <;> omega)]; simp [go_sem]
      have a2 : w2.cell? ⟨w.heap.size, 2, none⟩ = some (.string r1) := by rw [(bcell b2).1 _ _ (by simp <;> omega)]; simp [go_sem]
      have a3 : w2.cell? ⟨w.heap.size, 3, none⟩ = some (.int .i64 d1) := by rw [(bcell b2).1 _ _ (by simp <;> omega)]; simp [go_sem]
      have a4 : w2.cell? ⟨w.heap.size, 4, none⟩ = some (.int .i64 z1) := by rw [(bcell b2).1 _ _ (by simp <;> omega)]; simp [go_sem]
      have c0 : w2.cell? ⟨w.heap.size + 1, 0, none⟩ = some (.int .u8 0) := by rw [(bcell b2).1 _ _ (by simp <;> omega)]; simp [go_sem]
      have c1 : w2.cell? ⟨w.heap.size + 1, 1, none⟩ = some (.string t1) := by rw [(bcell b2).1 _ _ (by simp <;> omega)]; simp [go_sem]
      have c2 : w2.cell? ⟨w.heap.size + 1, 2, none⟩ = some (.string r1) := by rw [(bcell b2).1 _ _ (by simp <;> omega)]; simp [go_sem]
      have c3 : w2.cell? ⟨w.heap.size + 1, 3, none⟩ = some (.int .i64 d1) := by rw [(bcell b2).1 _ _ (by simp <;> omega)]; simp [go_sem]
      have c4 : w2.cell? ⟨w.heap.size + 1, 4, none⟩ = some (.int .i64 0) := by rw [(bcell b2).1 _ _ (by simp <;> omega)]; simp [go_sem]
      have f2 : ∀ i, w2.frozen? ⟨w.heap.size + 1, i, none⟩ = false := fun i => by rw [(bcell b2).2 _ _ (by simp <;> omega)]; simp [go_sem]
      clear b2
      cases bv
      all_goals
        go_wp2_with fail
        all_goals
          go_ret
          exact ⟨ret_int (by simp_all), by first | exact own2_below _ _ _ | exact B.out | exact B.out.setCell (Nat.le_succ _) _⟩

set_option maxHeartbeats 4000000 in
set_option maxRecDepth 100000 in
theorem valid_k4 (t1 r1 : ByteArray) (d1 z1 : Int) (w : World) (b_a1 b_a2 b_t b_r b_d1 b_d2 : Bool)
    (q_a1 : decide ((0 : Int) ≤ z1) = b_a1)
    (q_a2 : decide (z1 ≤ 20000) = b_a2)
    (q_t : t1.toList.isEmpty = b_t)
    (q_r : r1.toList.isEmpty = b_r)
    (q_d1 : decide ((0 : Int) ≤ d1) = b_d1)
    (q_d2 : decide (d1 ≤ 99999) = b_d2)
    (b_d : Bool) (q_d : ((d1 : Int) == 0) = b_d) :
    Calls Try.prog 8 #[.agg #[.int .u8 4, .string t1, .string r1, .int .i64 d1, .int .i64 z1]] w (BelB w (b_t && b_r && b_d1 && b_d2 && b_a1 && b_a2)) := by
  go_enter Try.func8, Try.ntmps8
  go_wp2_with fail
  go_quiet (fail)
  go_wp2_with fail
  all_goals
    go_ret
    exact ⟨ret_bool (by simp_all), by first | exact below_drewN (own_below _ _) _ | exact B.out⟩

set_option maxHeartbeats 4000000 in
set_option maxRecDepth 100000 in
theorem check_k4 (t1 r1 : ByteArray) (d1 z1 : Int) (w : World) (b_a1 b_a2 b_t b_r b_d1 b_d2 : Bool)
    (q_a1 : decide ((0 : Int) ≤ z1) = b_a1)
    (q_a2 : decide (z1 ≤ 20000) = b_a2)
    (q_t : t1.toList.isEmpty = b_t)
    (q_r : r1.toList.isEmpty = b_r)
    (q_d1 : decide ((0 : Int) ≤ d1) = b_d1)
    (q_d2 : decide (d1 ≤ 99999) = b_d2) :
    Calls Try.prog 7 #[.agg #[.int .u8 4, .string t1, .string r1, .int .i64 d1, .int .i64 z1]] w (ErrB w (b_t && b_r && b_d1 && b_d2 && b_a1 && b_a2)) := by
  go_enter Try.func7, Try.ntmps7
  cases b_a1 with
  | false =>
    go_wp2_with fail
    all_goals
      go_ret
      exact ⟨ret_int (by simp_all), by first | exact own2_below _ _ _ | exact B.out | exact B.out.setCell (Nat.le_succ _) _⟩
  | true =>
    cases b_a2 with
    | false =>
      go_wp2_with fail
      all_goals
        go_ret
        exact ⟨ret_int (by simp_all), by first | exact own2_below _ _ _ | exact B.out | exact B.out.setCell (Nat.le_succ _) _⟩
    | true =>
      cases b_d1 <;> cases b_d2
      all_goals
        go_wp2_with fail
        all_goals
          go_ret
          exact ⟨ret_int (by simp_all), by first | exact own2_below _ _ _ | exact B.out | exact B.out.setCell (Nat.le_succ _) _⟩

set_option maxHeartbeats 4000000 in
set_option maxRecDepth 100000 in
theorem valid_k5 (t1 r1 : ByteArray) (d1 z1 : Int) (w : World) (bm b_a1 b_a2 b_r b_d : Bool)
    (q_a1 : decide ((0 : Int) ≤ z1) = b_a1)
    (q_a2 : decide (z1 ≤ 20000) = b_a2)
    (q_r : r1.toList.isEmpty = b_r)
    (q_d : ((d1 : Int) == 0) = b_d)
    (hsz : t1.size = 1)
    (HM : Hid (∀ W, Calls Try.prog 18 #[.int .u8 ((t1[0]'(by omega)).toNat : Int)] W (RetB W bm))) :
    Calls Try.prog 8 #[.agg #[.int .u8 5, .string t1, .string r1, .int .i64 d1, .int .i64 z1]] w (BelB w (bm && b_r && b_d && b_a1 && b_a2)) := by
  have q_l : ((t1.size : Int) == 1) = true := by rw [hsz]; rfl
  go_enter Try.func8, Try.ntmps8
  go_wp2_with fail
  go_quiet (fail)
  go_wp2_with fail
  refine (HM.out _).mono ?_
  rintro e w' ⟨rfl, rfl⟩
  cases bm
  all_goals
    go_wp2_with fail
    all_goals
      go_ret
      exact ⟨ret_bool (by simp_all), by first | exact below_drewN (own_below _ _) _ | exact B.out⟩

set_option maxHeartbeats 4000000 in
set_option maxRecDepth 100000 in
theorem check_k5 (t1 r1 : ByteArray) (d1 z1 : Int) (w : World) (bc bm b_a1 b_a2 b_r b_d : Bool)
    (q_a1 : decide ((0 : Int) ≤ z1) = b_a1)
    (q_a2 : decide (z1 ≤ 20000) = b_a2)
    (q_r : r1.toList.isEmpty = b_r)
    (q_d : ((d1 : Int) == 0) = b_d)
    (hsz : t1.size = 1)
    (x : Int) (HC : Hid (∀ W, Calls Try.prog 15 #[.int .u8 ((t1[0]'(by omega)).toNat : Int)] W (RetI W x))) (hx : (x == 5) = bc) (hm : (t1.toList == [45]) = bm) :
    Calls Try.prog 7 #[.agg #[.int .u8 5, .string t1, .string r1, .int .i64 d1, .int .i64 z1]] w (ErrB w ((bc || bm) && b_r && b_d && b_a1 && b_a2)) := by
  have q_l : ((t1.size : Int) == 1) = true := by rw [hsz]; rfl
  go_enter Try.func7, Try.ntmps7
  cases b_a1 with
  | false =>
    go_wp2_with fail
    all_goals
      go_ret
      exact ⟨ret_int (by simp_all), by first | exact own2_below _ _ _ | exact B.out | exact B.out.setCell (Nat.le_succ _) _⟩
  | true =>
    cases b_a2 with
    | false =>
      go_wp2_with fail
      all_goals
        go_ret
        exact ⟨ret_int (by simp_all), by first | exact own2_below _ _ _ | exact B.out | exact B.out.setCell (Nat.le_succ _) _⟩
    | true =>
      go_wp2_with fail
      refine (HC.out _).mono ?_
      rintro e w' ⟨rfl, rfl⟩
      cases bc <;> cases bm
      all_goals
        go_wp2_with fail
        all_goals
          go_ret
          exact ⟨ret_int (by simp_all), by first | exact own2_below _ _ _ | exact B.out | exact B.out.setCell (Nat.le_succ _) _⟩

set_option maxHeartbeats 4000000 in
set_option maxRecDepth 100000 in
theorem valid_k5n (t1 r1 : ByteArray) (d1 z1 : Int) (w : World) (b_r b_d : Bool)
    (q_r : r1.toList.isEmpty = b_r)
    (q_d : ((d1 : Int) == 0) = b_d)
    (q_l : ((t1.size : Int) == 1) = false) :
    Calls Try.prog 8 #[.agg #[.int .u8 5, .string t1, .string r1, .int .i64 d1, .int .i64 z1]] w (BelB w (false)) := by
  go_enter Try.func8, Try.ntmps8
  go_wp2_with fail
  go_quiet (fail)
  go_wp2_with fail
  all_goals
    go_ret
    exact ⟨ret_bool (by simp_all), by first | exact below_drewN (own_below _ _) _ | exact B.out⟩

set_option maxHeartbeats 4000000 in
set_option maxRecDepth 100000 in
theorem check_k5n (t1 r1 : ByteArray) (d1 z1 : Int) (w : World) (b_a1 b_a2 : Bool)
    (q_a1 : decide ((0 : Int) ≤ z1) = b_a1)
    (q_a2 : decide (z1 ≤ 20000) = b_a2)
    (q_l : ((t1.size : Int) == 1) = false) :
    Calls Try.prog 7 #[.agg #[.int .u8 5, .string t1, .string r1, .int .i64 d1, .int .i64 z1]] w (ErrB w (false)) := by
  go_enter Try.func7, Try.ntmps7
  cases b_a1 with
  | false =>
    go_wp2_with fail
    all_goals
      go_ret
      exact ⟨ret_int (by simp_all), by first | exact own2_below _ _ _ | exact B.out | exact B.out.setCell (Nat.le_succ _) _⟩
  | true =>
    cases b_a2 with
    | false =>
      go_wp2_with fail
      all_goals
        go_ret
        exact ⟨ret_int (by simp_all), by first | exact own2_below _ _ _ | exact B.out | exact B.out.setCell (Nat.le_succ _) _⟩
    | true =>
      go_wp2_with fail
      all_goals
        go_ret
        exact ⟨ret_int (by simp_all), by first | exact own2_below _ _ _ | exact B.out | exact B.out.setCell (Nat.le_succ _) _⟩

set_option maxHeartbeats 4000000 in
set_option maxRecDepth 100000 in
theorem valid_kx (K : Int) (k1 : (K == 1) = false) (k2 : (K == 2) = false) (k3 : (K == 3) = false) (k4 : (K == 4) = false) (k5 : (K == 5) = false) (t1 r1 : ByteArray) (d1 z1 : Int) (w : World) (b_r b_d : Bool)
    (q_r : r1.toList.isEmpty = b_r)
    (q_d : ((d1 : Int) == 0) = b_d) :
    Calls Try.prog 8 #[.agg #[.int .u8 K, .string t1, .string r1, .int .i64 d1, .int .i64 z1]] w (BelB w false) := by
  go_enter Try.func8, Try.ntmps8
  go_wp2_with fail
  go_quiet (fail)
  go_wp2_with fail
  all_goals
    go_ret
    exact ⟨ret_bool (by simp_all), by first | exact below_drewN (own_below _ _) _ | exact B.out⟩

set_option maxHeartbeats 4000000 in
set_option maxRecDepth 100000 in
theorem check_kx (K : Int) (k1 : (K == 1) = false) (k2 : (K == 2) = false) (k3 : (K == 3) = false) (k4 : (K == 4) = false) (k5 : (K == 5) = false) (t1 r1 : ByteArray) (d1 z1 : Int) (w : World) (b_a1 b_a2 : Bool)
    (q_a1 : decide ((0 : Int) ≤ z1) = b_a1)
    (q_a2 : decide (z1 ≤ 20000) = b_a2) :
    Calls Try.prog 7 #[.agg #[.int .u8 K, .string t1, .string r1, .int .i64 d1, .int .i64 z1]] w (ErrB w false) := by
  go_enter Try.func7, Try.ntmps7
  cases b_a1 with
  | false =>
    go_wp2_with fail
    all_goals
      go_ret
      exact ⟨ret_int (by simp_all), by first | exact own2_below _ _ _ | exact B.out | exact B.out.setCell (Nat.le_succ _) _⟩
  | true =>
    cases b_a2 with
    | false =>
      go_wp2_with fail
      all_goals
        go_ret
        exact ⟨ret_int (by simp_all), by first | exact own2_below _ _ _ | exact B.out | exact B.out.setCell (Nat.le_succ _) _⟩
    | true =>
      go_wp2_with fail
      all_goals
        go_ret
        exact ⟨ret_int (by simp_all), by first | exact own2_below _ _ _ | exact B.out | exact B.out.setCell (Nat.le_succ _) _⟩

end Go.Proofs.Ytnmiiimbjojcmaa
