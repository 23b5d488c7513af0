/-
  The program's ToUnits, FromUnits. Condition: what the table away holds. The reference's Round by value; the reference's power, rat, ToUnits, FromUnits. No condition.
-/
import Derived.Test.YtnikhbdjlipcbaaDoorVz
import Derived.Test.YtnikhbdjlipcbaaDoorWn
namespace Go.Proofs.YtnikhbdjlipcbaaDoor
open Go.RowKit Go.Shelf

def Un (c : ByteArray) (u f : Int) : Prop := ∀ W, Calls Tryd.prog 5 #[.string c] W fun e w' => e = .returned (.tuple #[.int .i64 u, .int .i64 f]) ∧ Below W.heap.size W w'
def IiE (W : World) (a b : Int) (e : Ending) (w' : World) : Prop := e = .returned (.tuple #[.int .i64 a, .int .i64 b]) ∧ Below W.heap.size W w'
theorem un_none {c : ByteArray} (h : unitOf c.data.toList = none) : Hid (Un c 0 2) := fun W => by
  have := munit_any c W
  rw [h] at this
  exact this.mono fun e w' hh => hh
theorem un_some {c : ByteArray} {u : Nat} (h : unitOf c.data.toList = some u) : Hid (Un c (u : Int) 0) := fun W => by
  have := munit_any c W
  rw [h] at this
  exact this.mono fun e w' hh => hh

set_option maxHeartbeats 2000000 in
set_option maxRecDepth 100000 in
theorem tou_unit (r c : ByteArray) (k : Nat) (HU : Hid (Un c 0 2)) (w : World) :
    Calls Tryd.prog 7 #[.string r, .string c, .int .u8 (k : Int)] w (IiE w 0 2) := by
  go_enter Tryd.func7, Tryd.ntmps7
  go_wp2_with fail
  refine (HU.out _).mono ?_
  rintro e w1 ⟨rfl, b1⟩
  have B1 := Lib.hid b1
  clear b1
  go_wp2_with fail
  go_ret2
  exact ⟨rfl, B1.out⟩

set_option maxHeartbeats 2000000 in
set_option maxRecDepth 100000 in
theorem tou_mode (r c : ByteArray) (k : Nat) (u : Int) (HU : Hid (Un c u 0)) (t1 : decide ((4 : Int) < (k : Int)) = true) (w : World) :
    Calls Tryd.prog 7 #[.string r, .string c, .int .u8 (k : Int)] w (IiE w 0 2) := by
  go_enter Tryd.func7, Tryd.ntmps7
  go_wp2_with fail
  refine (HU.out _).mono ?_
  rintro e w1 ⟨rfl, b1⟩
  have B1 := Lib.hid b1
  clear b1
  go_wp2_with fail
  go_ret2
  exact ⟨rfl, B1.out⟩

set_option maxHeartbeats 2000000 in
set_option maxRecDepth 100000 in
theorem tou_form (r c : ByteArray) (k : Nat) (u : Nat) (HU : Hid (Un c (u : Int) 0)) (t1 : decide ((4 : Int) < (k : Int)) = false) (f0 : Int) (HC : Hid (∀ W, Calls Tryd.prog 18 #[.string r] W (ErrPost W f0))) (t2 : (f0 != 0) = true) (w : World) :
    Calls Tryd.prog 7 #[.string r, .string c, .int .u8 (k : Int)] w (IiE w 0 12) := by
  go_enter Tryd.func7, Tryd.ntmps7
  go_wp2_with fail
  refine (HU.out _).mono ?_
  rintro e w1 ⟨rfl, b1⟩
  have B1 := Lib.hid b1
  clear b1
  go_wp2_with fail
  refine (HC.out _).mono ?_
  rintro e w2 ⟨rfl, b2⟩
  have B2 := Lib.hid (B1.out.trans (b2.mono B1.out.size))
  clear b2
  go_wp2_with fail
  go_ret2
  exact ⟨rfl, B2.out⟩

set_option maxHeartbeats 2000000 in
set_option maxRecDepth 100000 in
theorem tou_mul (r c : ByteArray) (k : Nat) (u : Nat) (HU : Hid (Un c (u : Int) 0)) (t1 : decide ((4 : Int) < (k : Int)) = false) (HC : Hid (∀ W, Calls Tryd.prog 18 #[.string r] W (ErrPost W 0))) (P : Int) (HP : Hid (∀ W, Calls Tryd.prog 21 #[.int .i64 (u : Int)] W (RetI W P))) (p : ByteArray) (HO : Hid (∀ W, Calls Tryd.prog 20 #[.int .i64 P] W fun e w' => e = .returned (.string p) ∧ Below W.heap.size W w')) (x : ByteArray) (f1 : Int) (HM : Hid (∀ W, Calls Tryd.prog 19 #[.string r, .string p] W (StE W x f1))) (t3 : (f1 != 0) = true) (w : World) :
    Calls Tryd.prog 7 #[.string r, .string c, .int .u8 (k : Int)] w (IiE w 0 f1) := by
  go_enter Tryd.func7, Tryd.ntmps7
  go_wp2_with fail
  refine (HU.out _).mono ?_
  rintro e w1 ⟨rfl, b1⟩
  have B1 := Lib.hid b1
  clear b1
  go_wp2_with fail
  refine (HC.out _).mono ?_
  rintro e w2 ⟨rfl, b2⟩
  have B2 := Lib.hid (B1.out.trans (b2.mono B1.out.size))
  clear b2
  go_wp2_with fail
  refine (HP.out _).mono ?_
  rintro e w' ⟨rfl, rfl⟩
  go_wp2_with fail
  refine (HO.out _).mono ?_
  rintro e w3 ⟨rfl, b3⟩
  have B3 := Lib.hid (B2.out.trans (b3.mono B2.out.size))
  clear b3
  go_wp2_with fail
  refine (HM.out _).mono ?_
  rintro e w4 ⟨rfl, b4⟩
  have B4 := Lib.hid (B3.out.trans (b4.mono B3.out.size))
  clear b4
  go_wp2_with fail
  go_ret2
  exact ⟨rfl, B4.out⟩

set_option maxHeartbeats 2000000 in
set_option maxRecDepth 100000 in
theorem tou_round (r c : ByteArray) (k : Nat) (w : World) (u : Nat) (HU : Hid (Un c (u : Int) 0)) (t1 : decide ((4 : Int) < (k : Int)) = false) (HC : Hid (∀ W, Calls Tryd.prog 18 #[.string r] W (ErrPost W 0))) (P : Int) (HP : Hid (∀ W, Calls Tryd.prog 21 #[.int .i64 (u : Int)] W (RetI W P))) (p : ByteArray) (HO : Hid (∀ W, Calls Tryd.prog 20 #[.int .i64 P] W fun e w' => e = .returned (.string p) ∧ Below W.heap.size W w')) (x : ByteArray) (HM : Hid (∀ W, Calls Tryd.prog 19 #[.string r, .string p] W (StE W x 0))) (i : ByteArray) (f2 : Int) (HR : Hid (∀ W, Below w.heap.size w W → Calls Tryd.prog 22 #[.string x, .int .u8 (k : Int)] W (StE W i f2))) (t4 : (f2 != 0) = true) :
    Calls Tryd.prog 7 #[.string r, .string c, .int .u8 (k : Int)] w (IiE w 0 f2) := by
  go_enter Tryd.func7, Tryd.ntmps7
  go_wp2_with fail
  refine (HU.out _).mono ?_
  rintro e w1 ⟨rfl, b1⟩
  have B1 := Lib.hid b1
  clear b1
  go_wp2_with fail
  refine (HC.out _).mono ?_
  rintro e w2 ⟨rfl, b2⟩
  have B2 := Lib.hid (B1.out.trans (b2.mono B1.out.size))
  clear b2
  go_wp2_with fail
  refine (HP.out _).mono ?_
  rintro e w' ⟨rfl, rfl⟩
  go_wp2_with fail
  refine (HO.out _).mono ?_
  rintro e w3 ⟨rfl, b3⟩
  have B3 := Lib.hid (B2.out.trans (b3.mono B2.out.size))
  clear b3
  go_wp2_with fail
  refine (HM.out _).mono ?_
  rintro e w4 ⟨rfl, b4⟩
  have B4 := Lib.hid (B3.out.trans (b4.mono B3.out.size))
  clear b4
  go_wp2_with fail
  refine (HR.out _ B4.out).mono ?_
  rintro e w5 ⟨rfl, b5⟩
  have B5 := Lib.hid (B4.out.trans (b5.mono B4.out.size))
  clear b5
  go_wp2_with fail
  go_ret2
  exact ⟨rfl, B5.out⟩

set_option maxHeartbeats 2000000 in
set_option maxRecDepth 100000 in
theorem tou_big (r c : ByteArray) (k : Nat) (w : World) (u : Nat) (HU : Hid (Un c (u : Int) 0)) (t1 : decide ((4 : Int) < (k : Int)) = false) (HC : Hid (∀ W, Calls Tryd.prog 18 #[.string r] W (ErrPost W 0))) (P : Int) (HP : Hid (∀ W, Calls Tryd.prog 21 #[.int .i64 (u : Int)] W (RetI W P))) (p : ByteArray) (HO : Hid (∀ W, Calls Tryd.prog 20 #[.int .i64 P] W fun e w' => e = .returned (.string p) ∧ Below W.heap.size W w')) (x : ByteArray) (HM : Hid (∀ W, Calls Tryd.prog 19 #[.string r, .string p] W (StE W x 0))) (i : ByteArray) (HR : Hid (∀ W, Below w.heap.size w W → Calls Tryd.prog 22 #[.string x, .int .u8 (k : Int)] W (StE W i 0))) (n f3 : Int) (HT : Hid (∀ W, Calls Tryd.prog 23 #[.string i] W (IiE W n f3))) (t5 : (f3 != 0) = true) :
    Calls Tryd.prog 7 #[.string r, .string c, .int .u8 (k : Int)] w (IiE w 0 14) := by
  go_enter Tryd.func7, Tryd.ntmps7
  go_wp2_with fail
  refine (HU.out _).mono ?_
  rintro e w1 ⟨rfl, b1⟩
  have B1 := Lib.hid b1
  clear b1
  go_wp2_with fail
  refine (HC.out _).mono ?_
  rintro e w2 ⟨rfl, b2⟩
  have B2 := Lib.hid (B1.out.trans (b2.mono B1.out.size))
  clear b2
  go_wp2_with fail
  refine (HP.out _).mono ?_
  rintro e w' ⟨rfl, rfl⟩
  go_wp2_with fail
  refine (HO.out _).mono ?_
  rintro e w3 ⟨rfl, b3⟩
  have B3 := Lib.hid (B2.out.trans (b3.mono B2.out.size))
  clear b3
  go_wp2_with fail
  refine (HM.out _).mono ?_
  rintro e w4 ⟨rfl, b4⟩
  have B4 := Lib.hid (B3.out.trans (b4.mono B3.out.size))
  clear b4
  go_wp2_with fail
  refine (HR.out _ B4.out).mono ?_
  rintro e w5 ⟨rfl, b5⟩
  have B5 := Lib.hid (B4.out.trans (b5.mono B4.out.size))
  clear b5
  go_wp2_with fail
  refine (HT.out _).mono ?_
  rintro e w6 ⟨rfl, b6⟩
  have B6 := Lib.hid (B5.out.trans (b6.mono B5.out.size))
  clear b6
  go_wp2_with fail
  go_ret2
  exact ⟨rfl, B6.out⟩

set_option maxHeartbeats 2000000 in
set_option maxRecDepth 100000 in
theorem tou_amt (r c : ByteArray) (k : Nat) (w : World) (u : Nat) (HU : Hid (Un c (u : Int) 0)) (t1 : decide ((4 : Int) < (k : Int)) = false) (HC : Hid (∀ W, Calls Tryd.prog 18 #[.string r] W (ErrPost W 0))) (P : Int) (HP : Hid (∀ W, Calls Tryd.prog 21 #[.int .i64 (u : Int)] W (RetI W P))) (p : ByteArray) (HO : Hid (∀ W, Calls Tryd.prog 20 #[.int .i64 P] W fun e w' => e = .returned (.string p) ∧ Below W.heap.size W w')) (x : ByteArray) (HM : Hid (∀ W, Calls Tryd.prog 19 #[.string r, .string p] W (StE W x 0))) (i : ByteArray) (HR : Hid (∀ W, Below w.heap.size w W → Calls Tryd.prog 22 #[.string x, .int .u8 (k : Int)] W (StE W i 0))) (n : Int) (HT : Hid (∀ W, Calls Tryd.prog 23 #[.string i] W (IiE W n 0))) (HA : Hid (∀ W, Calls Tryd.prog 24 #[.int .i64 n] W (RetB W false))) :
    Calls Tryd.prog 7 #[.string r, .string c, .int .u8 (k : Int)] w (IiE w 0 14) := by
  go_enter Tryd.func7, Tryd.ntmps7
  go_wp2_with fail
  refine (HU.out _).mono ?_
  rintro e w1 ⟨rfl, b1⟩
  have B1 := Lib.hid b1
  clear b1
  go_wp2_with fail
  refine (HC.out _).mono ?_
  rintro e w2 ⟨rfl, b2⟩
  have B2 := Lib.hid (B1.out.trans (b2.mono B1.out.size))
  clear b2
  go_wp2_with fail
  refine (HP.out _).mono ?_
  rintro e w' ⟨rfl, rfl⟩
  go_wp2_with fail
  refine (HO.out _).mono ?_
  rintro e w3 ⟨rfl, b3⟩
  have B3 := Lib.hid (B2.out.trans (b3.mono B2.out.size))
  clear b3
  go_wp2_with fail
  refine (HM.out _).mono ?_
  rintro e w4 ⟨rfl, b4⟩
  have B4 := Lib.hid (B3.out.trans (b4.mono B3.out.size))
  clear b4
  go_wp2_with fail
  refine (HR.out _ B4.out).mono ?_
  rintro e w5 ⟨rfl, b5⟩
  have B5 := Lib.hid (B4.out.trans (b5.mono B4.out.size))
  clear b5
  go_wp2_with fail
  refine (HT.out _).mono ?_
  rintro e w6 ⟨rfl, b6⟩
  have B6 := Lib.hid (B5.out.trans (b6.mono B5.out.size))
  clear b6
  go_wp2_with fail
  refine (HA.out _).mono ?_
  rintro e w' ⟨rfl, rfl⟩
  go_wp2_with fail
  go_ret2
  exact ⟨rfl, B6.out⟩

set_option maxHeartbeats 2000000 in
set_option maxRecDepth 100000 in
theorem tou_go (r c : ByteArray) (k : Nat) (w : World) (u : Nat) (HU : Hid (Un c (u : Int) 0)) (t1 : decide ((4 : Int) < (k : Int)) = false) (HC : Hid (∀ W, Calls Tryd.prog 18 #[.string r] W (ErrPost W 0))) (P : Int) (HP : Hid (∀ W, Calls Tryd.prog 21 #[.int .i64 (u : Int)] W (RetI W P))) (p : ByteArray) (HO : Hid (∀ W, Calls Tryd.prog 20 #[.int .i64 P] W fun e w' => e = .returned (.string p) ∧ Below W.heap.size W w')) (x : ByteArray) (HM : Hid (∀ W, Calls Tryd.prog 19 #[.string r, .string p] W (StE W x 0))) (i : ByteArray) (HR : Hid (∀ W, Below w.heap.size w W → Calls Tryd.prog 22 #[.string x, .int .u8 (k : Int)] W (StE W i 0))) (n : Int) (HT : Hid (∀ W, Calls Tryd.prog 23 #[.string i] W (IiE W n 0))) (HA : Hid (∀ W, Calls Tryd.prog 24 #[.int .i64 n] W (RetB W true))) :
    Calls Tryd.prog 7 #[.string r, .string c, .int .u8 (k : Int)] w (IiE w n 0) := by
  go_enter Tryd.func7, Tryd.ntmps7
  go_wp2_with fail
  refine (HU.out _).mono ?_
  rintro e w1 ⟨rfl, b1⟩
  have B1 := Lib.hid b1
  clear b1
  go_wp2_with fail
  refine (HC.out _).mono ?_
  rintro e w2 ⟨rfl, b2⟩
  have B2 := Lib.hid (B1.out.trans (b2.mono B1.out.size))
  clear b2
  go_wp2_with fail
  refine (HP.out _).mono ?_
  rintro e w' ⟨rfl, rfl⟩
  go_wp2_with fail
  refine (HO.out _).mono ?_
  rintro e w3 ⟨rfl, b3⟩
  have B3 := Lib.hid (B2.out.trans (b3.mono B2.out.size))
  clear b3
  go_wp2_with fail
  refine (HM.out _).mono ?_
  rintro e w4 ⟨rfl, b4⟩
  have B4 := Lib.hid (B3.out.trans (b4.mono B3.out.size))
  clear b4
  go_wp2_with fail
  refine (HR.out _ B4.out).mono ?_
  rintro e w5 ⟨rfl, b5⟩
  have B5 := Lib.hid (B4.out.trans (b5.mono B4.out.size))
  clear b5
  go_wp2_with fail
  refine (HT.out _).mono ?_
  rintro e w6 ⟨rfl, b6⟩
  have B6 := Lib.hid (B5.out.trans (b6.mono B5.out.size))
  clear b6
  go_wp2_with fail
  refine (HA.out _).mono ?_
  rintro e w' ⟨rfl, rfl⟩
  go_wp2_with fail
  go_ret2
  exact ⟨rfl, B6.out⟩

set_option maxHeartbeats 2000000 in
set_option maxRecDepth 100000 in
theorem fru_unit (n : Int) (c : ByteArray) (w : World) (HU : Hid (Un c 0 2)) :
    Calls Tryd.prog 9 #[.int .i64 n, .string c] w (StE w ⟨#[]⟩ 2) := by
  go_enter Tryd.func9, Tryd.ntmps9
  go_wp2_with fail
  refine (HU.out _).mono ?_
  rintro e w1 ⟨rfl, b1⟩
  have B1 := Lib.hid b1
  clear b1
  go_wp2_with fail
  go_ret2
  exact ⟨rfl, B1.out⟩

set_option maxHeartbeats 2000000 in
set_option maxRecDepth 100000 in
theorem fru_amt (n : Int) (c : ByteArray) (w : World) (u : Int) (HU : Hid (Un c u 0)) (HA : Hid (∀ W, Calls Tryd.prog 24 #[.int .i64 n] W (RetB W false))) :
    Calls Tryd.prog 9 #[.int .i64 n, .string c] w (StE w ⟨#[]⟩ 2) := by
  go_enter Tryd.func9, Tryd.ntmps9
  go_wp2_with fail
  refine (HU.out _).mono ?_
  rintro e w1 ⟨rfl, b1⟩
  have B1 := Lib.hid b1
  clear b1
  go_wp2_with fail
  refine (HA.out _).mono ?_
  rintro e w' ⟨rfl, rfl⟩
  go_wp2_with fail
  go_ret2
  exact ⟨rfl, B1.out⟩

set_option maxHeartbeats 2000000 in
set_option maxRecDepth 100000 in
theorem fru_go (n : Int) (c : ByteArray) (w : World) (u P : Int) (HU : Hid (Un c u 0)) (HA : Hid (∀ W, Calls Tryd.prog 24 #[.int .i64 n] W (RetB W true))) (HP : Hid (∀ W, Calls Tryd.prog 21 #[.int .i64 u] W (RetI W P))) (x : ByteArray) (f : Int) (HR : Hid (∀ W, Calls Tryd.prog 32 #[.int .i64 n, .int .i64 P] W (StE W x f))) :
    Calls Tryd.prog 9 #[.int .i64 n, .string c] w (StE w x f) := by
  go_enter Tryd.func9, Tryd.ntmps9
  go_wp2_with fail
  refine (HU.out _).mono ?_
  rintro e w1 ⟨rfl, b1⟩
  have B1 := Lib.hid b1
  clear b1
  go_wp2_with fail
  refine (HA.out _).mono ?_
  rintro e w' ⟨rfl, rfl⟩
  go_wp2_with fail
  refine (HP.out _).mono ?_
  rintro e w' ⟨rfl, rfl⟩
  go_wp2_with fail
  refine (HR.out _).mono ?_
  rintro e w2 ⟨rfl, b2⟩
  have B2 := Lib.hid (B1.out.trans (b2.mono B1.out.size))
  clear b2
  go_wp2_with fail
  go_ret2
  exact ⟨rfl, B2.out⟩


/-- ToUnits, by value: a canonical number, a unit, a mode. -/
def touV (n d : Int) (u k : Nat) : Int × Int :=
  let z := roundZ k (ratN (n * (10 ^ u : Nat)) (d * 1)) (ratD (n * (10 ^ u : Nat)) (d * 1))
  if bigZ (n * (10 ^ u : Nat)) = true then (0, 14) else if amtOK z = false then (0, 14) else (z, 0)
theorem amtOK_big {z : Int} (h : bigZ z = true) : amtOK z = false := by
  cases e : amtOK z with
  | false => rfl
  | true =>
    unfold amtOK at e
    rw [decide_eq_true_eq] at e
    rw [bigZ_lt (by omega)] at h
    cases h
theorem toR_amt {z : Int} (h : amtOK z = true) : toR z = (z, 0) := by
  unfold amtOK at h
  rw [decide_eq_true_eq] at h
  exact toR_in (by omega) (by omega)
theorem chk_pos {k : Nat} (h : k < 5) : decide ((4 : Int) < (k : Int)) = false := by simp; omega
theorem tou_ok (r c : ByteArray) (n d : Int) (u k : Nat) (w : World) (hE : AwayEnv w) (hr : r.size ≤ 100000) (hu : unitOf c.data.toList = some u) (hk : k < 5) (hl : r.data.toList = ratT n d) (h : RatOK n d) :
    Calls Tryd.prog 7 #[.string r, .string c, .int .u8 (k : Int)] w (IiE w (touV n d u k).1 (touV n d u k).2) := by
  have hu3 := unit_le hu
  have HC : Hid (∀ W, Calls Tryd.prog 18 #[.string r] W (ErrPost W 0)) := fun W => by
    have := qrat_any r W hr
    rwa [hl, chkR_ratT h] at this
  have HP : Hid (∀ W, Calls Tryd.prog 21 #[.int .i64 (u : Int)] W (RetI W ((10 ^ u : Nat) : Int))) := fun W => power_any u W hu3
  have hp3 : 10 ^ u ≤ 1000 := Nat.pow_le_pow_right (by omega) (by omega : u ≤ 3)
  obtain ⟨P, hP⟩ : ∃ P : Nat, P = 10 ^ u := ⟨_, rfl⟩
  have hp0 : 0 < P := by rw [hP]; exact Nat.pow_pos (by omega)
  unfold touV
  rw [← hP] at HP hp3 ⊢
  have HO : Hid (∀ W, Calls Tryd.prog 20 #[.int .i64 (P : Int)] W fun e w' => e = .returned (.string ⟨(txtZ (P : Int)).toArray⟩) ∧ Below W.heap.size W w') := fun W => qof_any P W (by omega) (by omega)
  have bP : bigZ (P : Int) = false := bigZ_lt (by simp only [Int.natAbs_natCast]; omega)
  have hb2 : RatOK (P : Int) 1 := ⟨by decide, by simp, bP, bigZ_one⟩
  have HM : Hid (∀ W, Calls Tryd.prog 19 #[.string r, .string ⟨(txtZ (P : Int)).toArray⟩] W (StE W (mulS n d P 1) (mulF n d P 1))) := fun W =>
    rmul_ok r _ n d P 1 W hr (by have := bs_len _ bP; omega) hl (by unfold ratT; rw [if_pos rfl]) h hb2
  have bD : bigZ (d * 1) = false := by rw [Int.mul_one]; exact h.2.2.2
  have hU := un_some hu
  obtain ⟨N, hN⟩ : ∃ N, N = n * (P : Int) := ⟨_, rfl⟩
  by_cases hbN : bigZ N = true
  · have e1 : mulS n d P 1 = ⟨#[]⟩ := by unfold mulS; rw [if_pos (.inl (by rw [← hN]; exact hbN))]
    have e2 : mulF n d P 1 = 14 := by unfold mulF; rw [if_pos (.inl (by rw [← hN]; exact hbN))]
    rw [e1, e2] at HM
    simp only [← hN, hbN, if_true]
    exact tou_mul r c k u hU (chk_pos hk) HC _ HP _ HO _ 14 HM (by decide) w
  · have hbN' : bigZ N = false := by simpa using hbN
    have hno : ¬ (bigZ (n * (P : Int)) = true ∨ bigZ (d * 1) = true) := by
      rw [← hN, hbN', bD]; simp
    have e1 : mulS n d P 1 = ⟨(ratT (ratN N (d * 1)) (ratD N (d * 1))).toArray⟩ := by unfold mulS; rw [if_neg hno, hN]
    have e2 : mulF n d P 1 = 0 := by unfold mulF; rw [if_neg hno]
    rw [e1, e2] at HM
    have hd0 : d * 1 ≠ 0 := by have := h.1; omega
    have hrok := ratOK_make hd0 hbN' bD
    obtain ⟨z, hz⟩ : ∃ z, z = roundZ k (ratN N (d * 1)) (ratD N (d * 1)) := ⟨_, rfl⟩
    simp only [← hN, hbN', ← hz, Bool.false_eq_true, if_false]
    have hsz : (⟨(ratT (ratN N (d * 1)) (ratD N (d * 1))).toArray⟩ : ByteArray).size ≤ 100000 := by
      rw [← data_len]
      show (ratT (ratN N (d * 1)) (ratD N (d * 1))).length ≤ _
      have l1 := bs_len _ hrok.2.2.1
      have l2 := bs_len _ hrok.2.2.2
      rw [← data_len] at l1 l2
      have l1' : (txtZ (ratN N (d * 1))).length ≤ 1001 := l1
      have l2' : (txtZ (ratD N (d * 1))).length ≤ 1001 := l2
      unfold ratT
      split
      · omega
      · rw [List.length_append, List.length_cons]; omega
    have HR : ∀ W, Below w.heap.size w W → Calls Tryd.prog 22 #[.string ⟨(ratT (ratN N (d * 1)) (ratD N (d * 1))).toArray⟩, .int .u8 (k : Int)] W (StE W (if bigZ z = true then ⟨#[]⟩ else ⟨(txtZ z).toArray⟩) (if bigZ z = true then 14 else 0)) := fun W hW => by
      rw [hz]
      exact (round_ok _ _ _ k W (hE.below hW) hk hsz rfl hrok).mono fun e w' hh => hh.ste
    by_cases hbz : bigZ z = true
    · rw [amtOK_big hbz, if_pos rfl]
      simp only [hbz, if_true] at HR
      exact tou_round r c k w u hU (chk_pos hk) HC _ HP _ HO _ HM _ 14 (Lib.hid HR) (by decide)
    · have hbz' : bigZ z = false := by simpa using hbz
      simp only [hbz', Bool.false_eq_true, if_false] at HR
      have HT : ∀ W, Calls Tryd.prog 23 #[.string ⟨(txtZ z).toArray⟩] W (IiE W (toR z).1 (toR z).2) := fun W => to_ok _ z W (by have := bs_len _ hbz'; omega) rfl hbz'
      have HA := fun W => mamount_any z W
      by_cases ha : amtOK z = true
      · rw [toR_amt ha] at HT
        rw [ha] at HA ⊢
        rw [if_neg (by decide)]
        exact tou_go r c k w u hU (chk_pos hk) HC _ HP _ HO _ HM _ (Lib.hid HR) z (Lib.hid HT) (Lib.hid HA)
      · have ha' : amtOK z = false := by simpa using ha
        rw [ha', if_pos rfl]
        by_cases hf : (toR z).2 = 0
        · have e3 : (toR z).1 = z := by
            by_cases h : -9223372036854775808 ≤ z ∧ z ≤ 9223372036854775807
            · rw [toR_in h.1 h.2]
            · rw [toR_out (by omega)] at hf; cases hf
          rw [hf, e3] at HT
          rw [ha'] at HA
          exact tou_amt r c k w u hU (chk_pos hk) HC _ HP _ HO _ HM _ (Lib.hid HR) z (Lib.hid HT) (Lib.hid HA)
        · exact tou_big r c k w u hU (chk_pos hk) HC _ HP _ HO _ HM _ (Lib.hid HR) _ _ (Lib.hid HT) (by simpa using hf)
theorem fru_any (n : Int) (c : ByteArray) (w : World) : Calls Tryd.prog 9 #[.int .i64 n, .string c] w fun e w' => ((unitOf c.data.toList = none ∨ amtOK n = false) ∧ StE w ⟨#[]⟩ 2 e w') ∨ (∃ u, unitOf c.data.toList = some u ∧ amtOK n = true ∧ StE w ⟨(ratT (ratN n (10 ^ u : Nat)) (ratD n (10 ^ u : Nat))).toArray⟩ 0 e w') := by
  cases hu : unitOf c.data.toList with
  | none => exact (fru_unit n c w (un_none hu)).mono fun e w' hh => .inl ⟨.inl rfl, hh⟩
  | some u =>
    have hu3 := unit_le hu
    have HA := fun W => mamount_any n W
    cases ha : amtOK n with
    | false =>
      rw [ha] at HA
      exact (fru_amt n c w _ (un_some hu) (Lib.hid HA)).mono fun e w' hh => .inl ⟨.inr rfl, hh⟩
    | true =>
      rw [ha] at HA
      have hp3 : 10 ^ u ≤ 1000 := Nat.pow_le_pow_right (by omega) (by omega : u ≤ 3)
      have hp0 : 0 < 10 ^ u := Nat.pow_pos (by omega)
      have ha2 := ha
      unfold amtOK at ha2
      rw [decide_eq_true_eq] at ha2
      have HR : ∀ W, Calls Tryd.prog 32 #[.int .i64 n, .int .i64 ((10 ^ u : Nat) : Int)] W (StE W ⟨(ratT (ratN n (10 ^ u : Nat)) (ratD n (10 ^ u : Nat))).toArray⟩ 0) := fun W => ratio_ok n _ W (by omega) (by omega) (by omega) (by omega)
      exact (fru_go n c w _ _ (un_some hu) (Lib.hid HA) (Lib.hid fun W => power_any u W hu3) _ 0 (Lib.hid HR)).mono fun e w' hh => .inr ⟨u, rfl, rfl, hh⟩


end Go.Proofs.YtnikhbdjlipcbaaDoor

namespace Go.Proofs.YtnikhbdjlipcbaaDoor
open Go.RowKit Go.Shelf

/-- The reference's half: how twice the rest compares with the divisor. -/
def halfR (n d : Int) : Int := cmpN (2 * (n % d).natAbs) d.natAbs
def upR (k : Nat) (n d : Int) : Bool :=
  match k with
  | 0 => decide (n < 0)
  | 1 => !decide (n < 0)
  | 2 => decide (0 < halfR n d) || (decide (halfR n d = 0) && !decide (n < 0))
  | 3 => decide (0 < halfR n d) || (decide (halfR n d = 0) && decide ((n / d).natAbs % 2 = 1))
  | _ => false
/-- The reference's Round, by value. -/
def roundR (k : Nat) (n d : Int) : Int := if n % d = 0 ∨ k = 4 then n / d else if upR k n d = true then n / d + 1 else n / d
theorem cmp_two (a b : Nat) : cmpN (2 * a) b = if 2 * a < b then -1 else if b < 2 * a then 1 else 0 := rfl
theorem roundR_eq (k : Nat) (n d : Int) (hk : k < 5) (hd : 0 < d) : roundR k n d = roundZ k n d := by
  obtain ⟨N, hN⟩ : ∃ N, N = n.natAbs := ⟨_, rfl⟩
  obtain ⟨D, hD⟩ : ∃ D, D = d.natAbs := ⟨_, rfl⟩
  have hD0 : 0 < D := by omega
  have hlt := Nat.mod_lt N hD0
  unfold roundR roundZ
  by_cases h4 : k = 4
  · rw [if_pos (.inr h4), if_pos h4]
  rw [if_neg h4]
  obtain ⟨Q, hQ⟩ : ∃ Q, Q = N / D := ⟨_, rfl⟩
  obtain ⟨R, hR⟩ : ∃ R, R = N % D := ⟨_, rfl⟩
  have hq : rndQ k n.natAbs d.natAbs = if rndB k Q R D = true then Q + 1 else Q := by unfold rndQ; rw [hQ, hR, hN, hD]
  rw [hq]
  rw [← hR] at hlt
  have hb : rndB k Q R D = (decide (R ≠ 0) && rndUp k (decide (Q % 2 = 1)) (cmpZ R ((D : Int) + -(R : Int)))) := rfl
  rw [hb]
  have hcz : cmpZ (R : Int) ((D : Int) + -(R : Int)) = if 2 * R < D then -1 else if D < 2 * R then 1 else 0 := by
    unfold cmpZ
    split
    · rw [if_pos (by omega)]
    · split
      · rw [if_neg (by omega), if_pos (by omega)]
      · rw [if_neg (by omega), if_neg (by omega)]
  rw [hcz]
  by_cases hn : n < 0
  · rw [if_pos hn]
    by_cases h0 : R = 0
    · obtain ⟨e1, e2⟩ := div_n0 hn hd (by rw [← hN, ← hD, ← hR]; exact h0)
      rw [e2, if_pos (.inl rfl), e1, ← hN, ← hD, ← hQ]
      simp [h0]
    · obtain ⟨e1, e2⟩ := div_n1 hn hd (by rw [← hN, ← hD, ← hR]; exact h0)
      rw [← hN, ← hD, ← hQ] at e1
      rw [← hN, ← hD, ← hR] at e2
      have hh : halfR n d = if D < 2 * R then -1 else if 2 * R < D then 1 else 0 := by
        unfold halfR
        rw [e2, Int.natAbs_natCast, ← hD, cmp_two]
        by_cases g1 : D < 2 * R
        · rw [if_pos (by omega), if_pos g1]
        · rw [if_neg (by omega), if_neg g1]
          by_cases g2 : 2 * R < D
          · rw [if_pos (by omega), if_pos g2]
          · rw [if_neg (by omega), if_neg g2]
      have hdR : D - R ≠ 0 := by omega
      rw [e2, if_neg (by omega)]
      have hodd : (n / d).natAbs % 2 = (Q + 1) % 2 := by rw [e1, Int.natAbs_neg, Int.natAbs_natCast]
      rcases (by omega : k = 0 ∨ k = 1 ∨ k = 2 ∨ k = 3) with rfl | rfl | rfl | rfl
      · show (if decide (n < 0) = true then _ else _) = _
        rw [if_pos (by simpa using hn), e1]
        simp only [rndUp, Bool.and_false, Bool.false_eq_true, if_false]
        omega
      · show (if (!decide (n < 0)) = true then _ else _) = _
        rw [if_neg (by simp; omega), e1]
        simp [rndUp, h0]
      · show (if (decide (0 < halfR n d) || (decide (halfR n d = 0) && !decide (n < 0))) = true then _ else _) = _
        rw [hh, e1]
        simp only [rndUp]
        rcases Nat.lt_trichotomy (2 * R) D with g | g | g
        · first
          | (have a1 : 2 * R < D := by omega
             have a2 : ¬ D < 2 * R := by omega
             simp [a1, a2, h0, hn] <;> omega)
          | (have a1 : ¬ 2 * R < D := by omega
             have a2 : D < 2 * R := by omega
             simp [a1, a2, h0, hn] <;> omega)
          | (have a1 : ¬ 2 * R < D := by omega
             have a2 : ¬ D < 2 * R := by omega
             simp [a1, a2, h0, hn] <;> omega)
          | (have a1 : 2 * R < D := by omega
             have a2 : ¬ D < 2 * R := by omega
             simp [a1, a2, h0, hn])
          | (have a1 : ¬ 2 * R < D := by omega
             have a2 : D < 2 * R := by omega
             simp [a1, a2, h0, hn])
          | (have a1 : ¬ 2 * R < D := by omega
             have a2 : ¬ D < 2 * R := by omega
             simp [a1, a2, h0, hn])
        · first
          | (have a1 : 2 * R < D := by omega
             have a2 : ¬ D < 2 * R := by omega
             simp [a1, a2, h0, hn] <;> omega)
          | (have a1 : ¬ 2 * R < D := by omega
             have a2 : D < 2 * R := by omega
             simp [a1, a2, h0, hn] <;> omega)
          | (have a1 : ¬ 2 * R < D := by omega
             have a2 : ¬ D < 2 * R := by omega
             simp [a1, a2, h0, hn] <;> omega)
          | (have a1 : 2 * R < D := by omega
             have a2 : ¬ D < 2 * R := by omega
             simp [a1, a2, h0, hn])
          | (have a1 : ¬ 2 * R < D := by omega
             have a2 : D < 2 * R := by omega
             simp [a1, a2, h0, hn])
          | (have a1 : ¬ 2 * R < D := by omega
             have a2 : ¬ D < 2 * R := by omega
             simp [a1, a2, h0, hn])
        · first
          | (have a1 : 2 * R < D := by omega
             have a2 : ¬ D < 2 * R := by omega
             simp [a1, a2, h0, hn] <;> omega)
          | (have a1 : ¬ 2 * R < D := by omega
             have a2 : D < 2 * R := by omega
             simp [a1, a2, h0, hn] <;> omega)
          | (have a1 : ¬ 2 * R < D := by omega
             have a2 : ¬ D < 2 * R := by omega
             simp [a1, a2, h0, hn] <;> omega)
          | (have a1 : 2 * R < D := by omega
             have a2 : ¬ D < 2 * R := by omega
             simp [a1, a2, h0, hn])
          | (have a1 : ¬ 2 * R < D := by omega
             have a2 : D < 2 * R := by omega
             simp [a1, a2, h0, hn])
          | (have a1 : ¬ 2 * R < D := by omega
             have a2 : ¬ D < 2 * R := by omega
             simp [a1, a2, h0, hn])
      · show (if (decide (0 < halfR n d) || (decide (halfR n d = 0) && decide ((n / d).natAbs % 2 = 1))) = true then _ else _) = _
        rw [hh, hodd, e1]
        simp only [rndUp]
        rcases Nat.lt_trichotomy (2 * R) D with g | g | g
        · first
          | (have a1 : 2 * R < D := by omega
             have a2 : ¬ D < 2 * R := by omega
             simp [a1, a2, h0] <;> omega)
          | (have a1 : ¬ 2 * R < D := by omega
             have a2 : D < 2 * R := by omega
             simp [a1, a2, h0, hn] <;> omega)
          | (have a1 : ¬ 2 * R < D := by omega
             have a2 : ¬ D < 2 * R := by omega
             simp [a1, a2, h0, hn] <;> omega)
          | (have a1 : 2 * R < D := by omega
             have a2 : ¬ D < 2 * R := by omega
             simp [a1, a2, h0, hn])
          | (have a1 : ¬ 2 * R < D := by omega
             have a2 : D < 2 * R := by omega
             simp [a1, a2, h0, hn])
          | (have a1 : ¬ 2 * R < D := by omega
             have a2 : ¬ D < 2 * R := by omega
             simp [a1, a2, h0, hn])
        · have a1 : ¬ 2 * R < D := by omega
          have a2 : ¬ D < 2 * R := by omega
          have a3 : ¬ 1 = (0 : Int) := by omega
          by_cases ho : Q % 2 = 1
          · have : ¬ (Q + 1) % 2 = 1 := by omega
            simp [a1, a2, h0, ho, this]
          · have : (Q + 1) % 2 = 1 := by omega
            simp [a1, a2, h0, ho, this]; omega
        · first
          | (have a1 : 2 * R < D := by omega
             have a2 : ¬ D < 2 * R := by omega
             simp [a1, a2, h0, hn] <;> omega)
          | (have a1 : ¬ 2 * R < D := by omega
             have a2 : D < 2 * R := by omega
             simp [a1, a2, h0] <;> omega)
          | (have a1 : ¬ 2 * R < D := by omega
             have a2 : ¬ D < 2 * R := by omega
             simp [a1, a2, h0, hn] <;> omega)
          | (have a1 : 2 * R < D := by omega
             have a2 : ¬ D < 2 * R := by omega
             simp [a1, a2, h0, hn])
          | (have a1 : ¬ 2 * R < D := by omega
             have a2 : D < 2 * R := by omega
             simp [a1, a2, h0, hn])
          | (have a1 : ¬ 2 * R < D := by omega
             have a2 : ¬ D < 2 * R := by omega
             simp [a1, a2, h0, hn])
  · rw [if_neg hn]
    obtain ⟨e1, e2⟩ := div_p (show 0 ≤ n by omega) hd
    rw [← hN, ← hD, ← hQ] at e1
    rw [← hN, ← hD, ← hR] at e2
    by_cases h0 : R = 0
    · rw [e2, if_pos (.inl (by omega)), e1]
      simp [h0]
    · have hh : halfR n d = if 2 * R < D then -1 else if D < 2 * R then 1 else 0 := by
        unfold halfR
        rw [e2, Int.natAbs_natCast, ← hD, cmp_two]
      rw [e2, if_neg (by omega)]
      have hodd : (n / d).natAbs % 2 = Q % 2 := by rw [e1, Int.natAbs_natCast]
      rcases (by omega : k = 0 ∨ k = 1 ∨ k = 2 ∨ k = 3) with rfl | rfl | rfl | rfl
      · show (if decide (n < 0) = true then _ else _) = _
        rw [if_neg (by simpa using hn), e1]
        simp [rndUp]
      · show (if (!decide (n < 0)) = true then _ else _) = _
        rw [if_pos (by simp; omega), e1]
        simp [rndUp, h0]
      · show (if (decide (0 < halfR n d) || (decide (halfR n d = 0) && !decide (n < 0))) = true then _ else _) = _
        rw [hh, e1]
        simp only [rndUp]
        rcases Nat.lt_trichotomy (2 * R) D with g | g | g
        · first
          | (have a1 : 2 * R < D := by omega
             have a2 : ¬ D < 2 * R := by omega
             simp [a1, h0, hn] <;> omega)
          | (have a1 : ¬ 2 * R < D := by omega
             have a2 : D < 2 * R := by omega
             simp [a1, a2, h0, hn] <;> omega)
          | (have a1 : ¬ 2 * R < D := by omega
             have a2 : ¬ D < 2 * R := by omega
             simp [a1, a2, h0, hn] <;> omega)
          | (have a1 : 2 * R < D := by omega
             have a2 : ¬ D < 2 * R := by omega
             simp [a1, a2, h0, hn])
          | (have a1 : ¬ 2 * R < D := by omega
             have a2 : D < 2 * R := by omega
             simp [a1, a2, h0, hn])
          | (have a1 : ¬ 2 * R < D := by omega
             have a2 : ¬ D < 2 * R := by omega
             simp [a1, a2, h0, hn])
        · first
          | (have a1 : 2 * R < D := by omega
             have a2 : ¬ D < 2 * R := by omega
             simp [a1, a2, h0, hn] <;> omega)
          | (have a1 : ¬ 2 * R < D := by omega
             have a2 : D < 2 * R := by omega
             simp [a1, a2, h0, hn] <;> omega)
          | (have a1 : ¬ 2 * R < D := by omega
             have a2 : ¬ D < 2 * R := by omega
             simp [a1, a2, h0, hn] <;> omega)
          | (have a1 : 2 * R < D := by omega
             have a2 : ¬ D < 2 * R := by omega
             simp [a1, a2, h0, hn])
          | (have a1 : ¬ 2 * R < D := by omega
             have a2 : D < 2 * R := by omega
             simp [a1, a2, h0, hn])
          | (have a1 : ¬ 2 * R < D := by omega
             have a2 : ¬ D < 2 * R := by omega
             simp [a1, a2, h0, hn])
        · first
          | (have a1 : 2 * R < D := by omega
             have a2 : ¬ D < 2 * R := by omega
             simp [a1, a2, h0, hn] <;> omega)
          | (have a1 : ¬ 2 * R < D := by omega
             have a2 : D < 2 * R := by omega
             simp [a1, a2, h0, hn] <;> omega)
          | (have a1 : ¬ 2 * R < D := by omega
             have a2 : ¬ D < 2 * R := by omega
             simp [a1, a2, h0, hn] <;> omega)
          | (have a1 : 2 * R < D := by omega
             have a2 : ¬ D < 2 * R := by omega
             simp [a1, a2, h0, hn])
          | (have a1 : ¬ 2 * R < D := by omega
             have a2 : D < 2 * R := by omega
             simp [a1, a2, h0, hn])
          | (have a1 : ¬ 2 * R < D := by omega
             have a2 : ¬ D < 2 * R := by omega
             simp [a1, a2, h0, hn])
      · show (if (decide (0 < halfR n d) || (decide (halfR n d = 0) && decide ((n / d).natAbs % 2 = 1))) = true then _ else _) = _
        rw [hh, hodd, e1]
        simp only [rndUp]
        rcases Nat.lt_trichotomy (2 * R) D with g | g | g
        · first
          | (have a1 : 2 * R < D := by omega
             have a2 : ¬ D < 2 * R := by omega
             simp [a1, h0] <;> omega)
          | (have a1 : ¬ 2 * R < D := by omega
             have a2 : D < 2 * R := by omega
             simp [a1, a2, h0, hn] <;> omega)
          | (have a1 : ¬ 2 * R < D := by omega
             have a2 : ¬ D < 2 * R := by omega
             simp [a1, a2, h0, hn] <;> omega)
          | (have a1 : 2 * R < D := by omega
             have a2 : ¬ D < 2 * R := by omega
             simp [a1, a2, h0, hn])
          | (have a1 : ¬ 2 * R < D := by omega
             have a2 : D < 2 * R := by omega
             simp [a1, a2, h0, hn])
          | (have a1 : ¬ 2 * R < D := by omega
             have a2 : ¬ D < 2 * R := by omega
             simp [a1, a2, h0, hn])
        · have a1 : ¬ 2 * R < D := by omega
          have a2 : ¬ D < 2 * R := by omega
          have a3 : ¬ 1 = (0 : Int) := by omega
          by_cases ho : Q % 2 = 1 <;> simp [a1, a2, h0, ho]
        · first
          | (have a1 : 2 * R < D := by omega
             have a2 : ¬ D < 2 * R := by omega
             simp [a1, a2, h0, hn] <;> omega)
          | (have a1 : ¬ 2 * R < D := by omega
             have a2 : D < 2 * R := by omega
             simp [a1, a2, h0] <;> omega)
          | (have a1 : ¬ 2 * R < D := by omega
             have a2 : ¬ D < 2 * R := by omega
             simp [a1, a2, h0, hn] <;> omega)
          | (have a1 : 2 * R < D := by omega
             have a2 : ¬ D < 2 * R := by omega
             simp [a1, a2, h0, hn])
          | (have a1 : ¬ 2 * R < D := by omega
             have a2 : D < 2 * R := by omega
             simp [a1, a2, h0, hn])
          | (have a1 : ¬ 2 * R < D := by omega
             have a2 : ¬ D < 2 * R := by omega
             simp [a1, a2, h0, hn])
theorem bs_nilE : (⟨#[]⟩ : ByteArray).toList.isEmpty = true := by rw [toList_data]; rfl
theorem bs_empty (z : Int) : (⟨(txtZ z).toArray⟩ : ByteArray).toList.isEmpty = false := by
  rw [toList_data]
  show (txtZ z).isEmpty = false
  have := bs_pos z
  rw [← data_len] at this
  have h : 0 < (txtZ z).length := this
  cases hh : txtZ z with
  | nil => rw [hh] at h; simp at h
  | cons c r => rfl
/-- What Round of the reference hands back. -/
theorem rround_ok (s : ByteArray) (n d : Int) (k : Nat) (w : World) (hk : k < 5) (hs : s.size ≤ 100000) (hl : s.data.toList = ratT n d) (h : RatOK n d) :
    Calls Tryd.prog 29 #[.string s, .int .u8 (k : Int)] w (StE w ⟨(resT (roundZ k n d)).toArray⟩ (resF (roundZ k n d))) := by
  rw [← roundR_eq k n d hk h.1]
  have HC : Hid (∀ W, Calls Tryd.prog 25 #[.string s] W (ErrPost W 0)) := fun W => rrat_ok s n d W hs hl h
  have HW : Hid (∀ W, Calls Tryd.prog 57 #[.string s] W (WrPost W ⟨(txtZ n).toArray⟩ ⟨(txtZ d).toArray⟩)) := fun W => written_ok s n d W hs hl
  obtain ⟨hd, _, bn, bd⟩ := h
  have ln := bs_len n bn
  have ld := bs_len d bd
  have HQ : Hid (∀ W, Calls Tryd.prog 65 #[.string ⟨(txtZ n).toArray⟩, .string ⟨(txtZ d).toArray⟩] W fun e w' => e = .returned (.tuple #[.string ⟨(txtZ (n / d)).toArray⟩, .string ⟨(txtZ (n % d)).toArray⟩, .int .i64 0]) ∧ Below W.heap.size W w') := fun W => ridm_ok _ _ n d W (by omega) (by omega) rfl rfl bn bd hd
  have bq : bigZ (n / d) = false := bigZ_small (Int.natAbs_ediv_le_natAbs n d) bn
  have hm1 := Int.emod_nonneg n (show d ≠ 0 by omega)
  have hm2 := Int.emod_lt_of_pos n hd
  have br : bigZ (n % d) = false := bigZ_small (x := d) (by omega) bd
  have t0 := bs_zero (n % d)
  have fl : resT (n / d) = txtZ (n / d) ∧ resF (n / d) = 0 := ⟨resT_s (by rw [bq]; decide), resF_s (by rw [bq]; decide)⟩
  by_cases h0 : n % d = 0
  · rw [show roundR k n d = n / d from if_pos (.inl h0), fl.1, fl.2]
    exact rround_zero s _ _ _ _ w HC HW HQ k (chk_pos hk) (by rw [t0, decide_eq_true h0])
  have t0' : ((⟨(txtZ (n % d)).toArray⟩ : ByteArray).toList == [48]) = false := by rw [t0, decide_eq_false h0]
  by_cases h4 : k = 4
  · subst h4
    rw [show roundR 4 n d = n / d from if_pos (.inr rfl), fl.1, fl.2]
    exact rround_floor s _ _ _ _ w HC HW HQ t0'
  have hR : roundR k n d = if upR k n d = true then n / d + 1 else n / d := if_neg (by rintro (a | a); exact h0 a; exact h4 a)
  have HT : Hid (∀ W, Calls Tryd.prog 62 #[.string ⟨#[50]⟩, .string ⟨(txtZ (n % d)).toArray⟩] W (StE W ⟨(resT (2 * (n % d))).toArray⟩ (resF (2 * (n % d))))) := fun W => by
    have := rimul_ok ⟨#[50]⟩ ⟨(txtZ (n % d)).toArray⟩ 2 (n % d) W (by decide) (by have := bs_len _ br; omega) (rdZ_some (by decide)) rfl (bigZ_lt (by decide)) br
    exact this
  have HA : Hid (∀ W, Calls Tryd.prog 68 #[.string ⟨(txtZ (n / d)).toArray⟩, .string ⟨#[49]⟩] W (StE W ⟨(resT (n / d + 1)).toArray⟩ (resF (n / d + 1)))) := fun W =>
    riadd_ok _ _ (n / d) 1 W (by have := bs_len _ bq; omega) (by decide) rfl txtZ_1.symm bq bigZ_one
  have HD2 : Hid (∀ W, Calls Tryd.prog 67 #[.string ⟨(txtZ d).toArray⟩] W (DgsP W d.natAbs)) := fun W => dgsP_ok _ d W (by omega) rfl
  have HO : Hid (∀ W, Calls Tryd.prog 67 #[.string ⟨(txtZ (n / d)).toArray⟩] W (DgsOK W (n / d).natAbs)) := fun W => rdigits2_ok _ (n / d) W (by have := bs_len _ bq; omega) rfl
  have hvf : 0 < (decN (n / d).natAbs).length := List.length_pos_iff.2 (decN_ne _)
  have hodd : (((decN (n / d).natAbs).getD 0 0 : Nat) : Int) % 2 = ((n / d).natAbs % 2 : Nat) := by
    have e := dval_drop (decN (n / d).natAbs) 0
    rw [List.drop_zero, dval_decN] at e
    omega
  have T45 := bs_minus n
  have hp := bs_pos n
  obtain ⟨F, hF⟩ : ∃ F : ByteArray, F = ⟨(txtZ (n / d)).toArray⟩ := ⟨_, rfl⟩
  have ef : (⟨(resT (n / d)).toArray⟩ : ByteArray) = F := by rw [hF, fl.1]
  have key : ∀ (K : Nat), K = k → ∀ u, u = upR K n d → Calls Tryd.prog 29 #[.string s, .int .u8 (K : Int)] w (StE w (if u = true then ⟨(resT (n / d + 1)).toArray⟩ else ⟨(txtZ (n / d)).toArray⟩) (if u = true then resF (n / d + 1) else 0)) := by
    intro K hK u hu
    rw [hu]
    clear hu
    by_cases hbig : bigZ (2 * (n % d)) = true
    · -- twice the rest is too long: half is 1
      have hh : halfR n d = 1 := by
        unfold halfR
        refine cmpN_gt ?_
        rcases Nat.lt_or_ge d.natAbs (2 * (n % d).natAbs) with g | g
        · exact g
        · exfalso
          have := bigZ_small (z := 2 * (n % d)) (x := d) (by omega) bd
          rw [this] at hbig; cases hbig
      have e1 : (⟨(resT (2 * (n % d))).toArray⟩ : ByteArray) = ⟨#[]⟩ := by unfold resT; rw [if_pos hbig]
      rw [e1] at HT
      have HD1 : Hid (∀ W, Calls Tryd.prog 67 #[.string ⟨#[]⟩] W (DgsP W 0)) := fun W => dgsP_nil W
      rcases (by omega : K = 0 ∨ K = 1 ∨ K = 2 ∨ K = 3) with rfl | rfl | rfl | rfl
      · by_cases hn : n < 0
        · rw [show upR 0 n d = true from decide_eq_true hn, if_pos rfl, if_pos rfl]
          exact rround_0ne s _ _ _ _ w HC HW HQ t0' _ _ _ _ _ HT HD1 HD2 rfl bs_nilE hp (by rw [T45]; simpa using hn) _ _ HA
        · rw [show upR 0 n d = false from decide_eq_false hn, if_neg (by decide), if_neg (by decide)]
          exact rround_0pe s _ _ _ _ w HC HW HQ t0' _ _ _ _ _ HT HD1 HD2 rfl bs_nilE hp (by rw [T45]; simpa using hn)
      · by_cases hn : n < 0
        · rw [show upR 1 n d = false by unfold upR; simp [hn], if_neg (by decide), if_neg (by decide)]
          exact rround_1ne s _ _ _ _ w HC HW HQ t0' _ _ _ _ _ HT HD1 HD2 rfl bs_nilE hp (by show (!(_ == (45 : Int))) = _; rw [T45]; simp [hn])
        · rw [show upR 1 n d = true by unfold upR; simp [hn], if_pos rfl, if_pos rfl]
          exact rround_1pe s _ _ _ _ w HC HW HQ t0' _ _ _ _ _ HT HD1 HD2 rfl bs_nilE hp (by show (!(_ == (45 : Int))) = _; rw [T45]; simp [hn]) _ _ HA
      · rw [show upR 2 n d = true by unfold upR; rw [hh]; rfl, if_pos rfl, if_pos rfl]
        exact rround_2e s _ _ _ _ w HC HW HQ t0' _ _ _ _ _ HT HD1 HD2 rfl bs_nilE _ _ HA
      · rw [show upR 3 n d = true by unfold upR; rw [hh]; rfl, if_pos rfl, if_pos rfl]
        exact rround_3e s _ _ _ _ w HC HW HQ t0' _ _ _ _ _ HT HD1 HD2 rfl bs_nilE _ _ HA
    · have e1 : (⟨(resT (2 * (n % d))).toArray⟩ : ByteArray) = ⟨(txtZ (2 * (n % d))).toArray⟩ := by rw [resT_s hbig]
      rw [e1] at HT
      have HD1 : Hid (∀ W, Calls Tryd.prog 67 #[.string ⟨(txtZ (2 * (n % d))).toArray⟩] W (DgsP W (2 * (n % d)).natAbs)) := fun W => dgsP_ok _ _ W (by have := bs_len _ (show bigZ (2 * (n % d)) = false by simpa using hbig); omega) rfl
      have hC : halfR n d = cmpN (2 * (n % d)).natAbs d.natAbs := by
        unfold halfR
        rw [show 2 * (n % d).natAbs = (2 * (n % d)).natAbs by omega]
      have t3 := bs_empty (2 * (n % d))
      rcases (by omega : K = 0 ∨ K = 1 ∨ K = 2 ∨ K = 3) with rfl | rfl | rfl | rfl
      · by_cases hn : n < 0
        · rw [show upR 0 n d = true from decide_eq_true hn, if_pos rfl, if_pos rfl]
          exact rround_0n s _ _ _ _ w HC HW HQ t0' _ _ _ _ _ HT HD1 HD2 hC t3 hp (by rw [T45]; simpa using hn) _ _ HA
        · rw [show upR 0 n d = false from decide_eq_false hn, if_neg (by decide), if_neg (by decide)]
          exact rround_0p s _ _ _ _ w HC HW HQ t0' _ _ _ _ _ HT HD1 HD2 hC t3 hp (by rw [T45]; simpa using hn)
      · by_cases hn : n < 0
        · rw [show upR 1 n d = false by unfold upR; simp [hn], if_neg (by decide), if_neg (by decide)]
          exact rround_1n s _ _ _ _ w HC HW HQ t0' _ _ _ _ _ HT HD1 HD2 hC t3 hp (by show (!(_ == (45 : Int))) = _; rw [T45]; simp [hn])
        · rw [show upR 1 n d = true by unfold upR; simp [hn], if_pos rfl, if_pos rfl]
          exact rround_1p s _ _ _ _ w HC HW HQ t0' _ _ _ _ _ HT HD1 HD2 hC t3 hp (by show (!(_ == (45 : Int))) = _; rw [T45]; simp [hn]) _ _ HA
      · obtain ⟨C, hCC⟩ : ∃ C, C = halfR n d := ⟨_, rfl⟩
        have hu : upR 2 n d = (decide (0 < halfR n d) || (decide (halfR n d = 0) && !decide (n < 0))) := rfl
        rw [hu, ← hCC]
        rw [← hCC] at hC
        by_cases g : 0 < C
        · rw [show (decide (0 < C) || (decide (C = 0) && !decide (n < 0))) = true by simp [g], if_pos rfl, if_pos rfl]
          exact rround_2g s _ _ _ _ w HC HW HQ t0' _ _ _ _ _ HT HD1 HD2 hC t3 (by simpa using g) _ _ HA
        · by_cases z : C = 0
          · by_cases hn : n < 0
            · rw [show (decide (0 < C) || (decide (C = 0) && !decide (n < 0))) = false by simp [g, hn], if_neg (by decide), if_neg (by decide)]
              exact rround_2zn s _ _ _ _ w HC HW HQ t0' _ _ _ _ _ HT HD1 HD2 hC t3 (by simpa using g) (by simpa using z) hp (by show (!(_ == (45 : Int))) = _; rw [T45]; simp [hn])
            · rw [show (decide (0 < C) || (decide (C = 0) && !decide (n < 0))) = true by simp [z, hn], if_pos rfl, if_pos rfl]
              exact rround_2zp s _ _ _ _ w HC HW HQ t0' _ _ _ _ _ HT HD1 HD2 hC t3 (by simpa using g) (by simpa using z) hp (by show (!(_ == (45 : Int))) = _; rw [T45]; simp [hn]) _ _ HA
          · rw [show (decide (0 < C) || (decide (C = 0) && !decide (n < 0))) = false by simp [g, z], if_neg (by decide), if_neg (by decide)]
            exact rround_2l s _ _ _ _ w HC HW HQ t0' _ _ _ _ _ HT HD1 HD2 hC t3 (by simpa using g) (by simpa using z)
      · obtain ⟨C, hCC⟩ : ∃ C, C = halfR n d := ⟨_, rfl⟩
        have hu : upR 3 n d = (decide (0 < halfR n d) || (decide (halfR n d = 0) && decide ((n / d).natAbs % 2 = 1))) := rfl
        rw [hu, ← hCC]
        rw [← hCC] at hC
        by_cases g : 0 < C
        · rw [show (decide (0 < C) || (decide (C = 0) && decide ((n / d).natAbs % 2 = 1))) = true by simp [g], if_pos rfl, if_pos rfl]
          exact rround_3g s _ _ _ _ w HC HW HQ t0' _ _ _ _ _ HT HD1 HD2 hC t3 (by simpa using g) _ _ HA
        · by_cases z : C = 0
          · by_cases ho : (n / d).natAbs % 2 = 1
            · rw [show (decide (0 < C) || (decide (C = 0) && decide ((n / d).natAbs % 2 = 1))) = true by simp [z, ho], if_pos rfl, if_pos rfl]
              exact rround_3zo s _ _ _ _ w HC HW HQ t0' _ _ _ _ _ _ HT HD1 HD2 hC t3 (by simpa using g) (by simpa using z) HO (by rw [hodd, ho]; rfl) hvf _ _ HA
            · rw [show (decide (0 < C) || (decide (C = 0) && decide ((n / d).natAbs % 2 = 1))) = false by simp [g, ho], if_neg (by decide), if_neg (by decide)]
              exact rround_3ze s _ _ _ _ w HC HW HQ t0' _ _ _ _ _ _ HT HD1 HD2 hC t3 (by simpa using g) (by simpa using z) HO (by rw [hodd]; omega) hvf
          · rw [show (decide (0 < C) || (decide (C = 0) && decide ((n / d).natAbs % 2 = 1))) = false by simp [g, z], if_neg (by decide), if_neg (by decide)]
            exact rround_3l s _ _ _ _ w HC HW HQ t0' _ _ _ _ _ HT HD1 HD2 hC t3 (by simpa using g) (by simpa using z)
  have := key k rfl _ rfl
  rw [hR]
  cases hu : upR k n d with
  | true => rw [hu, if_pos rfl, if_pos rfl] at this; rw [if_pos rfl]; exact this
  | false => rw [hu, if_neg (by decide), if_neg (by decide)] at this; rw [if_neg (by decide), fl.1, fl.2]; exact this
set_option maxHeartbeats 1000000 in
set_option maxRecDepth 100000 in
theorem rpower_any (u : Nat) (w : World) (hu : u ≤ 3) : Calls Tryd.prog 28 #[.int .i64 (u : Int)] w (RetI w ((10 ^ u : Nat) : Int)) := by
  go_enter Tryd.func28, Tryd.ntmps28
  go_wp2_with fail
  go_loop [3, 4] (fun n i => ∃ k : Nat, k ≤ u ∧ i = .int .i64 (k : Int) ∧ n = .int .i64 ((10 ^ k : Nat) : Int)) (fun _ i => u - (intOf i).toNat)
  case atStart => exact ⟨0, Nat.zero_le _, rfl, rfl⟩
  case round =>
    obtain ⟨k, hk, rfl, rfl⟩ := hrel
    have hp : 10 ^ k ≤ 1000 := Nat.pow_le_pow_right (by omega) (by omega : k ≤ 3)
    have HS : Hid (10 ^ (k + 1) = 10 ^ k * 10) := Nat.pow_succ ..
    obtain ⟨P, hP⟩ : ∃ P, P = 10 ^ k := ⟨_, rfl⟩
    rw [← hP] at hp HS ⊢
    by_cases hlt : k < u
    · clear hP
      go_wp2_with fail
      go_round
      case rel => exact ⟨k + 1, by omega, by go_num, by rw [HS.out]; congr 1⟩
      case measure => simp [intOf]; omega
    · obtain rfl : k = u := by omega
      have HP := Lib.hid hP
      clear hP
      go_wp2_with fail
      go_ret
      exact ⟨ret_int (by rw [HP.out]; exact Int.natCast_pow 10 k), rfl⟩
set_option maxHeartbeats 1000000 in
set_option maxRecDepth 100000 in
theorem rrat7_go (n d : Int) (N D r : ByteArray) (f : Int) (w : World) (H1 : Hid (∀ W, Calls Tryd.prog 35 #[.int .i64 n] W fun e w' => e = .returned (.string N) ∧ Below W.heap.size W w')) (H2 : Hid (∀ W, Calls Tryd.prog 35 #[.int .i64 d] W fun e w' => e = .returned (.string D) ∧ Below W.heap.size W w'))
    (H3 : Hid (∀ W, Calls Tryd.prog 64 #[.string N, .string D] W (StE W r f))) : Calls Tryd.prog 27 #[.int .i64 n, .int .i64 d] w fun e w' => e = .returned (.string r) ∧ Below w.heap.size w w' := by
  go_enter Tryd.func27, Tryd.ntmps27
  go_wp2_with fail
  refine (H1.out _).mono ?_
  rintro e w1 ⟨rfl, b1⟩
  have B1 := Lib.hid (b1)
  clear b1
  go_wp2_with fail
  refine (H2.out _).mono ?_
  rintro e w2 ⟨rfl, b2⟩
  have B2 := Lib.hid (B1.out.trans (b2.mono B1.out.size))
  clear b2
  go_wp2_with fail
  refine (H3.out _).mono ?_
  rintro e w3 ⟨rfl, b3⟩
  have B3 := Lib.hid (B2.out.trans (b3.mono B2.out.size))
  clear b3
  go_wp2_with fail
  go_ret
  exact ⟨rfl, B3.out⟩
theorem rrat7_ok (n d : Int) (w : World) (hn : n.natAbs < 100000000000000000) (hd : d.natAbs < 100000000000000000) (h0 : 0 < d) : Calls Tryd.prog 27 #[.int .i64 n, .int .i64 d] w fun e w' => e = .returned (.string ⟨(ratT (ratN n d) (ratD n d)).toArray⟩) ∧ Below w.heap.size w w' :=
  rrat7_go n d _ _ _ 0 w (Lib.hid fun W => rof_int n W hn) (Lib.hid fun W => rof_int d W hd) (Lib.hid fun W => rmake2_ok n d W (bigZ_lt (by omega)) (bigZ_lt (by omega)) h0)
def RUn (c : ByteArray) (u f : Int) : Prop := ∀ W, Calls Tryd.prog 6 #[.string c] W fun e w' => e = .returned (.tuple #[.int .i64 u, .int .i64 f]) ∧ Below W.heap.size W w'
theorem run_none {c : ByteArray} (h : unitOf c.data.toList = none) : Hid (RUn c 0 2) := fun W => by
  have := runit_any c W
  rw [h] at this
  exact this
theorem run_some {c : ByteArray} {u : Nat} (h : unitOf c.data.toList = some u) : Hid (RUn c (u : Int) 0) := fun W => by
  have := runit_any c W
  rw [h] at this
  exact this
set_option maxHeartbeats 1000000 in
set_option maxRecDepth 100000 in
theorem rtou_unit (r c : ByteArray) (k : Nat) (HU : Hid (RUn c 0 2)) (w : World) : Calls Tryd.prog 8 #[.string r, .string c, .int .u8 (k : Int)] w (IiE w 0 2) := by
  go_enter Tryd.func8, Tryd.ntmps8
  go_wp2_with fail
  refine (HU.out _).mono ?_
  rintro e w1 ⟨rfl, b1⟩
  have B1 := Lib.hid b1
  clear b1
  go_wp2_with fail
  go_ret2
  exact ⟨rfl, B1.out⟩
set_option maxHeartbeats 1000000 in
set_option maxRecDepth 100000 in
theorem rtou_mode (r c : ByteArray) (k : Nat) (u : Int) (HU : Hid (RUn c u 0)) (t1 : decide ((4 : Int) < (k : Int)) = true) (w : World) : Calls Tryd.prog 8 #[.string r, .string c, .int .u8 (k : Int)] w (IiE w 0 2) := by
  go_enter Tryd.func8, Tryd.ntmps8
  go_wp2_with fail
  refine (HU.out _).mono ?_
  rintro e w1 ⟨rfl, b1⟩
  have B1 := Lib.hid b1
  clear b1
  go_wp2_with fail
  go_ret2
  exact ⟨rfl, B1.out⟩
set_option maxHeartbeats 1000000 in
set_option maxRecDepth 100000 in
theorem rtou_form (r c : ByteArray) (k u : Nat) (HU : Hid (RUn c (u : Int) 0)) (t1 : decide ((4 : Int) < (k : Int)) = false) (f0 : Int) (HC : Hid (∀ W, Calls Tryd.prog 25 #[.string r] W (ErrPost W f0))) (t2 : (f0 != 0) = true) (w : World) : Calls Tryd.prog 8 #[.string r, .string c, .int .u8 (k : Int)] w (IiE w 0 12) := by
  go_enter Tryd.func8, Tryd.ntmps8
  go_wp2_with fail
  refine (HU.out _).mono ?_
  rintro e w1 ⟨rfl, b1⟩
  have B1 := Lib.hid b1
  clear b1
  go_wp2_with fail
  refine (HC.out _).mono ?_
  rintro e w2 ⟨rfl, b2⟩
  have B2 := Lib.hid (B1.out.trans (b2.mono B1.out.size))
  clear b2
  go_wp2_with fail
  go_ret2
  exact ⟨rfl, B2.out⟩
set_option maxHeartbeats 1000000 in
set_option maxRecDepth 100000 in
theorem rtou_mul (r c : ByteArray) (k u : Nat) (HU : Hid (RUn c (u : Int) 0)) (t1 : decide ((4 : Int) < (k : Int)) = false) (HC : Hid (∀ W, Calls Tryd.prog 25 #[.string r] W (ErrPost W 0))) (P : Int) (HP : Hid (∀ W, Calls Tryd.prog 28 #[.int .i64 (u : Int)] W (RetI W P))) (t : ByteArray) (HT : Hid (∀ W, Calls Tryd.prog 27 #[.int .i64 P, .int .i64 1] W fun e w' => e = .returned (.string t) ∧ Below W.heap.size W w')) (x : ByteArray) (f1 : Int) (HM : Hid (∀ W, Calls Tryd.prog 26 #[.string r, .string t] W (StE W x f1))) (t2 : (f1 != 0) = true) (w : World) : Calls Tryd.prog 8 #[.string r, .string c, .int .u8 (k : Int)] w (IiE w 0 f1) := by
  go_enter Tryd.func8, Tryd.ntmps8
  go_wp2_with fail
  refine (HU.out _).mono ?_
  rintro e w1 ⟨rfl, b1⟩
  have B1 := Lib.hid b1
  clear b1
  go_wp2_with fail
  refine (HC.out _).mono ?_
  rintro e w2 ⟨rfl, b2⟩
  have B2 := Lib.hid (B1.out.trans (b2.mono B1.out.size))
  clear b2
  go_wp2_with fail
  refine (HP.out _).mono ?_
  rintro e w' ⟨rfl, rfl⟩
  go_wp2_with fail
  refine (HT.out _).mono ?_
  rintro e w3 ⟨rfl, b3⟩
  have B3 := Lib.hid (B2.out.trans (b3.mono B2.out.size))
  clear b3
  go_wp2_with fail
  refine (HM.out _).mono ?_
  rintro e w4 ⟨rfl, b4⟩
  have B4 := Lib.hid (B3.out.trans (b4.mono B3.out.size))
  clear b4
  go_wp2_with fail
  go_ret2
  exact ⟨rfl, B4.out⟩
set_option maxHeartbeats 1000000 in
set_option maxRecDepth 100000 in
theorem rtou_round (r c : ByteArray) (k u : Nat) (HU : Hid (RUn c (u : Int) 0)) (t1 : decide ((4 : Int) < (k : Int)) = false) (HC : Hid (∀ W, Calls Tryd.prog 25 #[.string r] W (ErrPost W 0))) (P : Int) (HP : Hid (∀ W, Calls Tryd.prog 28 #[.int .i64 (u : Int)] W (RetI W P))) (t : ByteArray) (HT : Hid (∀ W, Calls Tryd.prog 27 #[.int .i64 P, .int .i64 1] W fun e w' => e = .returned (.string t) ∧ Below W.heap.size W w')) (x : ByteArray) (HM : Hid (∀ W, Calls Tryd.prog 26 #[.string r, .string t] W (StE W x 0))) (i : ByteArray) (f2 : Int) (HR : Hid (∀ W, Calls Tryd.prog 29 #[.string x, .int .u8 (k : Int)] W (StE W i f2))) (t2 : (f2 != 0) = true) (w : World) : Calls Tryd.prog 8 #[.string r, .string c, .int .u8 (k : Int)] w (IiE w 0 f2) := by
  go_enter Tryd.func8, Tryd.ntmps8
  go_wp2_with fail
  refine (HU.out _).mono ?_
  rintro e w1 ⟨rfl, b1⟩
  have B1 := Lib.hid b1
  clear b1
  go_wp2_with fail
  refine (HC.out _).mono ?_
  rintro e w2 ⟨rfl, b2⟩
  have B2 := Lib.hid (B1.out.trans (b2.mono B1.out.size))
  clear b2
  go_wp2_with fail
  refine (HP.out _).mono ?_
  rintro e w' ⟨rfl, rfl⟩
  go_wp2_with fail
  refine (HT.out _).mono ?_
  rintro e w3 ⟨rfl, b3⟩
  have B3 := Lib.hid (B2.out.trans (b3.mono B2.out.size))
  clear b3
  go_wp2_with fail
  refine (HM.out _).mono ?_
  rintro e w4 ⟨rfl, b4⟩
  have B4 := Lib.hid (B3.out.trans (b4.mono B3.out.size))
  clear b4
  go_wp2_with fail
  refine (HR.out _).mono ?_
  rintro e w5 ⟨rfl, b5⟩
  have B5 := Lib.hid (B4.out.trans (b5.mono B4.out.size))
  clear b5
  go_wp2_with fail
  go_ret2
  exact ⟨rfl, B5.out⟩
set_option maxHeartbeats 1000000 in
set_option maxRecDepth 100000 in
theorem rtou_big (r c : ByteArray) (k u : Nat) (HU : Hid (RUn c (u : Int) 0)) (t1 : decide ((4 : Int) < (k : Int)) = false) (HC : Hid (∀ W, Calls Tryd.prog 25 #[.string r] W (ErrPost W 0))) (P : Int) (HP : Hid (∀ W, Calls Tryd.prog 28 #[.int .i64 (u : Int)] W (RetI W P))) (t : ByteArray) (HT : Hid (∀ W, Calls Tryd.prog 27 #[.int .i64 P, .int .i64 1] W fun e w' => e = .returned (.string t) ∧ Below W.heap.size W w')) (x : ByteArray) (HM : Hid (∀ W, Calls Tryd.prog 26 #[.string r, .string t] W (StE W x 0))) (i : ByteArray) (HR : Hid (∀ W, Calls Tryd.prog 29 #[.string x, .int .u8 (k : Int)] W (StE W i 0))) (z f3 : Int) (HZ : Hid (∀ W, Calls Tryd.prog 30 #[.string i] W (IiE W z f3))) (t2 : (f3 != 0) = true) (w : World) : Calls Tryd.prog 8 #[.string r, .string c, .int .u8 (k : Int)] w (IiE w 0 14) := by
  go_enter Tryd.func8, Tryd.ntmps8
  go_wp2_with fail
  refine (HU.out _).mono ?_
  rintro e w1 ⟨rfl, b1⟩
  have B1 := Lib.hid b1
  clear b1
  go_wp2_with fail
  refine (HC.out _).mono ?_
  rintro e w2 ⟨rfl, b2⟩
  have B2 := Lib.hid (B1.out.trans (b2.mono B1.out.size))
  clear b2
  go_wp2_with fail
  refine (HP.out _).mono ?_
  rintro e w' ⟨rfl, rfl⟩
  go_wp2_with fail
  refine (HT.out _).mono ?_
  rintro e w3 ⟨rfl, b3⟩
  have B3 := Lib.hid (B2.out.trans (b3.mono B2.out.size))
  clear b3
  go_wp2_with fail
  refine (HM.out _).mono ?_
  rintro e w4 ⟨rfl, b4⟩
  have B4 := Lib.hid (B3.out.trans (b4.mono B3.out.size))
  clear b4
  go_wp2_with fail
  refine (HR.out _).mono ?_
  rintro e w5 ⟨rfl, b5⟩
  have B5 := Lib.hid (B4.out.trans (b5.mono B4.out.size))
  clear b5
  go_wp2_with fail
  refine (HZ.out _).mono ?_
  rintro e w6 ⟨rfl, b6⟩
  have B6 := Lib.hid (B5.out.trans (b6.mono B5.out.size))
  clear b6
  go_wp2_with fail
  go_ret2
  exact ⟨rfl, B6.out⟩
set_option maxHeartbeats 1000000 in
set_option maxRecDepth 100000 in
theorem rtou_amt (r c : ByteArray) (k u : Nat) (HU : Hid (RUn c (u : Int) 0)) (t1 : decide ((4 : Int) < (k : Int)) = false) (HC : Hid (∀ W, Calls Tryd.prog 25 #[.string r] W (ErrPost W 0))) (P : Int) (HP : Hid (∀ W, Calls Tryd.prog 28 #[.int .i64 (u : Int)] W (RetI W P))) (t : ByteArray) (HT : Hid (∀ W, Calls Tryd.prog 27 #[.int .i64 P, .int .i64 1] W fun e w' => e = .returned (.string t) ∧ Below W.heap.size W w')) (x : ByteArray) (HM : Hid (∀ W, Calls Tryd.prog 26 #[.string r, .string t] W (StE W x 0))) (i : ByteArray) (HR : Hid (∀ W, Calls Tryd.prog 29 #[.string x, .int .u8 (k : Int)] W (StE W i 0))) (z : Int) (HZ : Hid (∀ W, Calls Tryd.prog 30 #[.string i] W (IiE W z 0))) (HA : Hid (∀ W, Calls Tryd.prog 31 #[.int .i64 z] W (RetB W false))) (w : World) : Calls Tryd.prog 8 #[.string r, .string c, .int .u8 (k : Int)] w (IiE w 0 14) := by
  go_enter Tryd.func8, Tryd.ntmps8
  go_wp2_with fail
  refine (HU.out _).mono ?_
  rintro e w1 ⟨rfl, b1⟩
  have B1 := Lib.hid b1
  clear b1
  go_wp2_with fail
  refine (HC.out _).mono ?_
  rintro e w2 ⟨rfl, b2⟩
  have B2 := Lib.hid (B1.out.trans (b2.mono B1.out.size))
  clear b2
  go_wp2_with fail
  refine (HP.out _).mono ?_
  rintro e w' ⟨rfl, rfl⟩
  go_wp2_with fail
  refine (HT.out _).mono ?_
  rintro e w3 ⟨rfl, b3⟩
  have B3 := Lib.hid (B2.out.trans (b3.mono B2.out.size))
  clear b3
  go_wp2_with fail
  refine (HM.out _).mono ?_
  rintro e w4 ⟨rfl, b4⟩
  have B4 := Lib.hid (B3.out.trans (b4.mono B3.out.size))
  clear b4
  go_wp2_with fail
  refine (HR.out _).mono ?_
  rintro e w5 ⟨rfl, b5⟩
  have B5 := Lib.hid (B4.out.trans (b5.mono B4.out.size))
  clear b5
  go_wp2_with fail
  refine (HZ.out _).mono ?_
  rintro e w6 ⟨rfl, b6⟩
  have B6 := Lib.hid (B5.out.trans (b6.mono B5.out.size))
  clear b6
  go_wp2_with fail
  refine (HA.out _).mono ?_
  rintro e w' ⟨rfl, rfl⟩
  go_wp2_with fail
  go_ret2
  exact ⟨rfl, B6.out⟩
set_option maxHeartbeats 1000000 in
set_option maxRecDepth 100000 in
theorem rtou_go (r c : ByteArray) (k u : Nat) (HU : Hid (RUn c (u : Int) 0)) (t1 : decide ((4 : Int) < (k : Int)) = false) (HC : Hid (∀ W, Calls Tryd.prog 25 #[.string r] W (ErrPost W 0))) (P : Int) (HP : Hid (∀ W, Calls Tryd.prog 28 #[.int .i64 (u : Int)] W (RetI W P))) (t : ByteArray) (HT : Hid (∀ W, Calls Tryd.prog 27 #[.int .i64 P, .int .i64 1] W fun e w' => e = .returned (.string t) ∧ Below W.heap.size W w')) (x : ByteArray) (HM : Hid (∀ W, Calls Tryd.prog 26 #[.string r, .string t] W (StE W x 0))) (i : ByteArray) (HR : Hid (∀ W, Calls Tryd.prog 29 #[.string x, .int .u8 (k : Int)] W (StE W i 0))) (z : Int) (HZ : Hid (∀ W, Calls Tryd.prog 30 #[.string i] W (IiE W z 0))) (HA : Hid (∀ W, Calls Tryd.prog 31 #[.int .i64 z] W (RetB W true))) (w : World) : Calls Tryd.prog 8 #[.string r, .string c, .int .u8 (k : Int)] w (IiE w z 0) := by
  go_enter Tryd.func8, Tryd.ntmps8
  go_wp2_with fail
  refine (HU.out _).mono ?_
  rintro e w1 ⟨rfl, b1⟩
  have B1 := Lib.hid b1
  clear b1
  go_wp2_with fail
  refine (HC.out _).mono ?_
  rintro e w2 ⟨rfl, b2⟩
  have B2 := Lib.hid (B1.out.trans (b2.mono B1.out.size))
  clear b2
  go_wp2_with fail
  refine (HP.out _).mono ?_
  rintro e w' ⟨rfl, rfl⟩
  go_wp2_with fail
  refine (HT.out _).mono ?_
  rintro e w3 ⟨rfl, b3⟩
  have B3 := Lib.hid (B2.out.trans (b3.mono B2.out.size))
  clear b3
  go_wp2_with fail
  refine (HM.out _).mono ?_
  rintro e w4 ⟨rfl, b4⟩
  have B4 := Lib.hid (B3.out.trans (b4.mono B3.out.size))
  clear b4
  go_wp2_with fail
  refine (HR.out _).mono ?_
  rintro e w5 ⟨rfl, b5⟩
  have B5 := Lib.hid (B4.out.trans (b5.mono B4.out.size))
  clear b5
  go_wp2_with fail
  refine (HZ.out _).mono ?_
  rintro e w6 ⟨rfl, b6⟩
  have B6 := Lib.hid (B5.out.trans (b6.mono B5.out.size))
  clear b6
  go_wp2_with fail
  refine (HA.out _).mono ?_
  rintro e w' ⟨rfl, rfl⟩
  go_wp2_with fail
  go_ret2
  exact ⟨rfl, B6.out⟩
set_option maxHeartbeats 1000000 in
set_option maxRecDepth 100000 in
theorem rfru_unit (n : Int) (c : ByteArray) (w : World) (HU : Hid (RUn c 0 2)) : Calls Tryd.prog 10 #[.int .i64 n, .string c] w (StE w ⟨#[]⟩ 2) := by
  go_enter Tryd.func10, Tryd.ntmps10
  go_wp2_with fail
  refine (HU.out _).mono ?_
  rintro e w1 ⟨rfl, b1⟩
  have B1 := Lib.hid b1
  clear b1
  go_wp2_with fail
  go_ret2
  exact ⟨rfl, B1.out⟩
set_option maxHeartbeats 1000000 in
set_option maxRecDepth 100000 in
theorem rfru_amt (n : Int) (c : ByteArray) (w : World) (u : Int) (HU : Hid (RUn c u 0)) (HA : Hid (∀ W, Calls Tryd.prog 31 #[.int .i64 n] W (RetB W false))) : Calls Tryd.prog 10 #[.int .i64 n, .string c] w (StE w ⟨#[]⟩ 2) := by
  go_enter Tryd.func10, Tryd.ntmps10
  go_wp2_with fail
  refine (HU.out _).mono ?_
  rintro e w1 ⟨rfl, b1⟩
  have B1 := Lib.hid b1
  clear b1
  go_wp2_with fail
  refine (HA.out _).mono ?_
  rintro e w' ⟨rfl, rfl⟩
  go_wp2_with fail
  go_ret2
  exact ⟨rfl, B1.out⟩
set_option maxHeartbeats 1000000 in
set_option maxRecDepth 100000 in
theorem rfru_go (n : Int) (c : ByteArray) (w : World) (u P : Int) (HU : Hid (RUn c u 0)) (HA : Hid (∀ W, Calls Tryd.prog 31 #[.int .i64 n] W (RetB W true))) (HP : Hid (∀ W, Calls Tryd.prog 28 #[.int .i64 u] W (RetI W P))) (t : ByteArray)
    (HT : Hid (∀ W, Calls Tryd.prog 27 #[.int .i64 n, .int .i64 P] W fun e w' => e = .returned (.string t) ∧ Below W.heap.size W w')) : Calls Tryd.prog 10 #[.int .i64 n, .string c] w (StE w t 0) := by
  go_enter Tryd.func10, Tryd.ntmps10
  go_wp2_with fail
  refine (HU.out _).mono ?_
  rintro e w1 ⟨rfl, b1⟩
  have B1 := Lib.hid b1
  clear b1
  go_wp2_with fail
  refine (HA.out _).mono ?_
  rintro e w' ⟨rfl, rfl⟩
  go_wp2_with fail
  refine (HP.out _).mono ?_
  rintro e w' ⟨rfl, rfl⟩
  go_wp2_with fail
  refine (HT.out _).mono ?_
  rintro e w2 ⟨rfl, b2⟩
  have B2 := Lib.hid (B1.out.trans (b2.mono B1.out.size))
  clear b2
  go_wp2_with fail
  go_ret2
  exact ⟨rfl, B2.out⟩
theorem rtou_ok (r c : ByteArray) (n d : Int) (u k : Nat) (w : World) (hr : r.size ≤ 100000) (hu : unitOf c.data.toList = some u) (hk : k < 5) (hl : r.data.toList = ratT n d) (h : RatOK n d) :
    Calls Tryd.prog 8 #[.string r, .string c, .int .u8 (k : Int)] w (IiE w (touV n d u k).1 (touV n d u k).2) := by
  have hu3 := unit_le hu
  have HC : Hid (∀ W, Calls Tryd.prog 25 #[.string r] W (ErrPost W 0)) := fun W => rrat_ok r n d W hr hl h
  have HP : Hid (∀ W, Calls Tryd.prog 28 #[.int .i64 (u : Int)] W (RetI W ((10 ^ u : Nat) : Int))) := fun W => rpower_any u W hu3
  have hp3 : 10 ^ u ≤ 1000 := Nat.pow_le_pow_right (by omega) (by omega : u ≤ 3)
  obtain ⟨P, hP⟩ : ∃ P : Nat, P = 10 ^ u := ⟨_, rfl⟩
  have hp0 : 0 < P := by rw [hP]; exact Nat.pow_pos (by omega)
  unfold touV
  rw [← hP] at HP hp3 ⊢
  have bP : bigZ (P : Int) = false := bigZ_lt (by simp only [Int.natAbs_natCast]; omega)
  have hb2 : RatOK (P : Int) 1 := ⟨by decide, by simp, bP, bigZ_one⟩
  have HT : Hid (∀ W, Calls Tryd.prog 27 #[.int .i64 (P : Int), .int .i64 1] W fun e w' => e = .returned (.string ⟨(txtZ (P : Int)).toArray⟩) ∧ Below W.heap.size W w') := fun W => by
    have := rrat7_ok (P : Int) 1 W (by omega) (by decide) (by decide)
    have e1 : ratN (P : Int) 1 = P := by unfold ratN; simp
    have e2 : ratD (P : Int) 1 = 1 := by unfold ratD; simp
    rw [e1, e2] at this
    unfold ratT at this
    rw [if_pos rfl] at this
    exact this
  have HM : Hid (∀ W, Calls Tryd.prog 26 #[.string r, .string ⟨(txtZ (P : Int)).toArray⟩] W (StE W (mulS n d P 1) (mulF n d P 1))) := fun W =>
    rmul2_ok r _ n d P 1 W hr (by have := bs_len _ bP; omega) hl (by unfold ratT; rw [if_pos rfl]) h hb2
  have bD : bigZ (d * 1) = false := by rw [Int.mul_one]; exact h.2.2.2
  have hU := run_some hu
  obtain ⟨N, hN⟩ : ∃ N, N = n * (P : Int) := ⟨_, rfl⟩
  by_cases hbN : bigZ N = true
  · have e1 : mulS n d P 1 = ⟨#[]⟩ := by unfold mulS; rw [if_pos (.inl (by rw [← hN]; exact hbN))]
    have e2 : mulF n d P 1 = 14 := by unfold mulF; rw [if_pos (.inl (by rw [← hN]; exact hbN))]
    rw [e1, e2] at HM
    simp only [← hN, hbN, if_true]
    exact rtou_mul r c k u hU (chk_pos hk) HC _ HP _ HT _ 14 HM (by decide) w
  · have hbN' : bigZ N = false := by simpa using hbN
    have hno : ¬ (bigZ (n * (P : Int)) = true ∨ bigZ (d * 1) = true) := by
      rw [← hN, hbN', bD]; simp
    have e1 : mulS n d P 1 = ⟨(ratT (ratN N (d * 1)) (ratD N (d * 1))).toArray⟩ := by unfold mulS; rw [if_neg hno, hN]
    have e2 : mulF n d P 1 = 0 := by unfold mulF; rw [if_neg hno]
    rw [e1, e2] at HM
    have hd0 : d * 1 ≠ 0 := by have := h.1; omega
    have hrok := ratOK_make hd0 hbN' bD
    obtain ⟨z, hz⟩ : ∃ z, z = roundZ k (ratN N (d * 1)) (ratD N (d * 1)) := ⟨_, rfl⟩
    simp only [← hN, hbN', ← hz, Bool.false_eq_true, if_false]
    have hsz : (⟨(ratT (ratN N (d * 1)) (ratD N (d * 1))).toArray⟩ : ByteArray).size ≤ 100000 := by
      rw [← data_len]
      show (ratT (ratN N (d * 1)) (ratD N (d * 1))).length ≤ _
      have l1 := bs_len _ hrok.2.2.1
      have l2 := bs_len _ hrok.2.2.2
      rw [← data_len] at l1 l2
      have l1' : (txtZ (ratN N (d * 1))).length ≤ 1001 := l1
      have l2' : (txtZ (ratD N (d * 1))).length ≤ 1001 := l2
      unfold ratT
      split
      · omega
      · rw [List.length_append, List.length_cons]; omega
    have HR : ∀ W, Calls Tryd.prog 29 #[.string ⟨(ratT (ratN N (d * 1)) (ratD N (d * 1))).toArray⟩, .int .u8 (k : Int)] W (StE W ⟨(resT z).toArray⟩ (resF z)) := fun W => by
      rw [hz]
      exact rround_ok _ _ _ k W hk hsz rfl hrok
    by_cases hbz : bigZ z = true
    · rw [amtOK_big hbz, if_pos rfl]
      rw [resF_b hbz] at HR
      exact rtou_round r c k u hU (chk_pos hk) HC _ HP _ HT _ HM _ 14 (Lib.hid HR) (by decide) w
    · have hbz' : bigZ z = false := by simpa using hbz
      rw [resF_s hbz, resT_s hbz] at HR
      have HZ : ∀ W, Calls Tryd.prog 30 #[.string ⟨(txtZ z).toArray⟩] W (IiE W (toR z).1 (toR z).2) := fun W => rto_ok _ z W (by have := bs_len _ hbz'; omega) rfl hbz'
      have HA := fun W => ramount_any z W
      by_cases ha : amtOK z = true
      · rw [toR_amt ha] at HZ
        rw [ha] at HA ⊢
        rw [if_neg (by decide)]
        exact rtou_go r c k u hU (chk_pos hk) HC _ HP _ HT _ HM _ (Lib.hid HR) z (Lib.hid HZ) (Lib.hid HA) w
      · have ha' : amtOK z = false := by simpa using ha
        rw [ha', if_pos rfl]
        by_cases hf : (toR z).2 = 0
        · have e3 : (toR z).1 = z := by
            by_cases h : -9223372036854775808 ≤ z ∧ z ≤ 9223372036854775807
            · rw [toR_in h.1 h.2]
            · rw [toR_out (by omega)] at hf; cases hf
          rw [hf, e3] at HZ
          rw [ha'] at HA
          exact rtou_amt r c k u hU (chk_pos hk) HC _ HP _ HT _ HM _ (Lib.hid HR) z (Lib.hid HZ) (Lib.hid HA) w
        · exact rtou_big r c k u hU (chk_pos hk) HC _ HP _ HT _ HM _ (Lib.hid HR) _ _ (Lib.hid HZ) (by simpa using hf) w
theorem rfru_any (n : Int) (c : ByteArray) (w : World) : Calls Tryd.prog 10 #[.int .i64 n, .string c] w fun e w' => ((unitOf c.data.toList = none ∨ amtOK n = false) ∧ StE w ⟨#[]⟩ 2 e w') ∨ (∃ u, unitOf c.data.toList = some u ∧ amtOK n = true ∧ StE w ⟨(ratT (ratN n (10 ^ u : Nat)) (ratD n (10 ^ u : Nat))).toArray⟩ 0 e w') := by
  cases hu : unitOf c.data.toList with
  | none => exact (rfru_unit n c w (run_none hu)).mono fun e w' hh => .inl ⟨.inl rfl, hh⟩
  | some u =>
    have hu3 := unit_le hu
    have HA := fun W => ramount_any n W
    cases ha : amtOK n with
    | false =>
      rw [ha] at HA
      exact (rfru_amt n c w _ (run_some hu) (Lib.hid HA)).mono fun e w' hh => .inl ⟨.inr rfl, hh⟩
    | true =>
      rw [ha] at HA
      have hp3 : 10 ^ u ≤ 1000 := Nat.pow_le_pow_right (by omega) (by omega : u ≤ 3)
      have hp0 : 0 < 10 ^ u := Nat.pow_pos (by omega)
      have ha2 := ha
      unfold amtOK at ha2
      rw [decide_eq_true_eq] at ha2
      have HT : ∀ W, Calls Tryd.prog 27 #[.int .i64 n, .int .i64 ((10 ^ u : Nat) : Int)] W fun e w' => e = .returned (.string ⟨(ratT (ratN n (10 ^ u : Nat)) (ratD n (10 ^ u : Nat))).toArray⟩) ∧ Below W.heap.size W w' := fun W => rrat7_ok n _ W (by omega) (by omega) (by omega)
      exact (rfru_go n c w _ _ (run_some hu) (Lib.hid HA) (Lib.hid fun W => rpower_any u W hu3) _ (Lib.hid HT)).mono fun e w' hh => .inr ⟨u, rfl, rfl, hh⟩

end Go.Proofs.YtnikhbdjlipcbaaDoor
