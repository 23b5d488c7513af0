/-
  The program's Mul of rationals, by value; power, Of, Ratio. No condition. The program's ToUnits, FromUnits. Condition: what the table away holds.
-/
import Derived.Test.YtnikhbdjlipcbaaGreatDoorVv
import Derived.Test.YtnikhbdjlipcbaaGreatDoorVy
namespace Go.Proofs.YtnikhbdjlipcbaaGreatDoor
open Go.RowKit Go.Shelf

theorem ratOK_make {x y : Int} (h0 : y ≠ 0) (bx : bigZ x = false) (byy : bigZ y = false) : RatOK (ratN x y) (ratD x y) := by
  have hgp : 0 < Nat.gcd x.natAbs y.natAbs := Nat.gcd_pos_of_pos_right _ (by omega)
  have hD : ratD x y = ((y.natAbs / Nat.gcd x.natAbs y.natAbs : Nat) : Int) := rfl
  have hN : (ratN x y).natAbs = x.natAbs / Nat.gcd x.natAbs y.natAbs := by
    unfold ratN
    have hd : ((Nat.gcd x.natAbs y.natAbs : Nat) : Int) ∣ (if y < 0 then -x else x) := by
      refine Int.ofNat_dvd_left.2 ?_
      split
      · rw [Int.natAbs_neg]; exact Nat.gcd_dvd_left _ _
      · exact Nat.gcd_dvd_left _ _
    rw [Int.natAbs_ediv_of_dvd hd, Int.natAbs_natCast]
    split
    · rw [Int.natAbs_neg]
    · rfl
  refine ⟨?_, ?_, ?_, ?_⟩
  · rw [hD]
    have : 0 < y.natAbs / Nat.gcd x.natAbs y.natAbs := Nat.div_pos (Nat.gcd_le_right _ (by omega)) hgp
    omega
  · rw [hN, hD, Int.natAbs_natCast]
    rw [Nat.gcd_div (Nat.gcd_dvd_left _ _) (Nat.gcd_dvd_right _ _), Nat.div_self hgp]
  · refine bigZ_small (x := x) ?_ bx
    rw [hN]; exact Nat.div_le_self _ _
  · rw [hD]
    refine bigZ_le (Nat.div_le_self _ _) ?_
    rw [bigZ_abs]; exact byy
def mulS (n1 d1 n2 d2 : Int) : ByteArray := if bigZ (n1 * n2) = true ∨ bigZ (d1 * d2) = true then ⟨#[]⟩ else ⟨(ratT (ratN (n1 * n2) (d1 * d2)) (ratD (n1 * n2) (d1 * d2))).toArray⟩
def mulF (n1 d1 n2 d2 : Int) : Int := if bigZ (n1 * n2) = true ∨ bigZ (d1 * d2) = true then 14 else 0
theorem mul_ste (x y : Int) (bx : bigZ x = false) (byy : bigZ y = false) : Hid (∀ W, Calls Tryz.prog 43 #[.string ⟨(txtZ x).toArray⟩, .string ⟨(txtZ y).toArray⟩] W (StE W (if bigZ (x * y) = true then ⟨#[]⟩ else ⟨(txtZ (x * y)).toArray⟩) (if bigZ (x * y) = true then 14 else 0))) := fun W =>
  (mul_ok _ _ x y W (by have := bs_len x bx; omega) (by have := bs_len y byy; omega) rfl rfl bx byy).mono fun _ _ hh => hh.ste
theorem rmul_ok (a b : ByteArray) (n1 d1 n2 d2 : Int) (w : World) (ha : a.size ≤ 100000) (hb : b.size ≤ 100000) (la : a.data.toList = ratT n1 d1) (lb : b.data.toList = ratT n2 d2) (h1 : RatOK n1 d1) (h2 : RatOK n2 d2) :
    Calls Tryz.prog 36 #[.string a, .string b] w (StE w (mulS n1 d1 n2 d2) (mulF n1 d1 n2 d2)) := by
  have HBO : Hid (∀ W, Calls Tryz.prog 41 #[.string a, .string b] W (BothP W ⟨(txtZ n1).toArray⟩ ⟨(txtZ n2).toArray⟩ ⟨(txtZ d1).toArray⟩ ⟨(txtZ d2).toArray⟩ 0)) := fun W =>
    both_any a b _ _ _ _ 0 0 W (Lib.hid fun W => parts_ok a n1 d1 W ha la h1) (fun _ => Lib.hid fun W => parts_ok b n2 d2 W hb lb h2) (fun h => absurd rfl h)
  obtain ⟨p1, _, bn1, bd1⟩ := h1
  obtain ⟨p2, _, bn2, bd2⟩ := h2
  have K1 : ∀ n0 n1' d0 d1', Hid (KeepAt 43 n0 n1' d0 d1' ⟨(txtZ n1).toArray⟩ ⟨(txtZ n2).toArray⟩ (if bigZ (n1 * n2) = true then ⟨#[]⟩ else ⟨(txtZ (n1 * n2)).toArray⟩) 0 (if bigZ (n1 * n2) = true then 14 else 0)) := fun n0 n1' d0 d1' W g bp bf hp hq hf => keep1_Mul g bp bf n0 n1' d0 d1' _ _ _ _ W hp hq hf (mul_ste n1 n2 bn1 bn2)
  by_cases hb1 : bigZ (n1 * n2) = true
  · have eS : mulS n1 d1 n2 d2 = ⟨#[]⟩ := by unfold mulS; rw [if_pos (.inl hb1)]
    have eF : mulF n1 d1 n2 d2 = 14 := by unfold mulF; rw [if_pos (.inl hb1)]
    rw [eS, eF]
    simp only [hb1, if_true] at K1
    exact rmul_go a b _ _ _ _ ⟨#[]⟩ ⟨#[]⟩ _ 0 14 14 14 w HBO (K1 _ _ _ _) (Lib.hid fun W g bp bf hp hq _ => keep1_err g bp bf _ _ _ _ _ _ 14 W (by decide) hp hq) (Lib.hid fun W g hp => made_err g _ _ _ _ _ _ 14 W (by decide) hp)
  · simp only [hb1, if_false, Bool.false_eq_true] at K1
    have K2 : ∀ n0 n1' d0 d1', Hid (KeepAt 43 n0 n1' d0 d1' ⟨(txtZ d1).toArray⟩ ⟨(txtZ d2).toArray⟩ (if bigZ (d1 * d2) = true then ⟨#[]⟩ else ⟨(txtZ (d1 * d2)).toArray⟩) 0 (if bigZ (d1 * d2) = true then 14 else 0)) := fun n0 n1' d0 d1' W g bp bf hp hq hf => keep1_Mul g bp bf n0 n1' d0 d1' _ _ _ _ W hp hq hf (mul_ste d1 d2 bd1 bd2)
    by_cases hb2 : bigZ (d1 * d2) = true
    · have eS : mulS n1 d1 n2 d2 = ⟨#[]⟩ := by unfold mulS; rw [if_pos (.inr hb2)]
      have eF : mulF n1 d1 n2 d2 = 14 := by unfold mulF; rw [if_pos (.inr hb2)]
      rw [eS, eF]
      simp only [hb2, if_true] at K2
      exact rmul_go a b _ _ _ _ _ ⟨#[]⟩ _ 0 0 14 14 w HBO (K1 _ _ _ _) (K2 _ _ _ _) (Lib.hid fun W g hp => made_err g _ _ _ _ _ _ 14 W (by decide) hp)
    · have eS : mulS n1 d1 n2 d2 = ⟨(ratT (ratN (n1 * n2) (d1 * d2)) (ratD (n1 * n2) (d1 * d2))).toArray⟩ := by unfold mulS; rw [if_neg (by rintro (h | h); exact hb1 h; exact hb2 h)]
      have eF : mulF n1 d1 n2 d2 = 0 := by unfold mulF; rw [if_neg (by rintro (h | h); exact hb1 h; exact hb2 h)]
      rw [eS, eF]
      simp only [hb2, if_false, Bool.false_eq_true] at K2
      have hb1' : bigZ (n1 * n2) = false := by simpa using hb1
      have hb2' : bigZ (d1 * d2) = false := by simpa using hb2
      have hd0 : d1 * d2 ≠ 0 := Int.ne_of_gt (Int.mul_pos p1 p2)
      have hmk : Hid (∀ W, Calls Tryz.prog 65 #[.string ⟨(txtZ (n1 * n2)).toArray⟩, .string ⟨(txtZ (d1 * d2)).toArray⟩] W (StE W ⟨(ratT (ratN (n1 * n2) (d1 * d2)) (ratD (n1 * n2) (d1 * d2))).toArray⟩ 0)) := fun W =>
        (make_ok _ _ (n1 * n2) (d1 * d2) W (by have := bs_len _ hb1'; omega) (by have := bs_len _ hb2'; omega) rfl rfl hb1' hb2' hd0).mono fun _ _ hh => hh
      exact rmul_go a b _ _ _ _ _ _ _ 0 0 0 0 w HBO (K1 _ _ _ _) (K2 _ _ _ _) (Lib.hid fun W g hp => made_go g _ _ _ _ _ _ _ 0 W hp hmk)

set_option maxHeartbeats 1000000 in
set_option maxRecDepth 100000 in
theorem power_any (u : Nat) (w : World) (hu : u ≤ 3) : Calls Tryz.prog 34 #[.int .i64 (u : Int)] w (RetI w ((10 ^ u : Nat) : Int)) := by
  go_enter Tryz.func34, Tryz.ntmps34
  go_wp2_with fail
  go_loop [3, 5] (fun n i => ∃ k : Nat, k ≤ u ∧ i = .int .i64 (k : Int) ∧ n = .int .i64 ((10 ^ k : Nat) : Int)) (fun _ i => u - (intOf i).toNat)
  case atStart => exact ⟨0, Nat.zero_le _, rfl, rfl⟩
  case round =>
    obtain ⟨k, hk, rfl, rfl⟩ := hrel
    have hp : 10 ^ k ≤ 1000 := Nat.pow_le_pow_right (by omega) (by omega : k ≤ 3)
    have HS : Hid (10 ^ (k + 1) = 10 ^ k * 10) := Nat.pow_succ ..
    obtain ⟨P, hP⟩ : ∃ P, P = 10 ^ k := ⟨_, rfl⟩
    rw [← hP] at hp HS ⊢
    by_cases hlt : k < u
    · clear hP
      go_wp2_with fail
      go_round
      case rel => exact ⟨k + 1, by omega, by go_num, by rw [HS.out]; congr 1⟩
      case measure => simp [intOf]; omega
    · obtain rfl : k = u := by omega
      have HP := Lib.hid hP
      clear hP
      go_wp2_with fail
      go_ret
      exact ⟨ret_int (by rw [HP.out]; exact Int.natCast_pow 10 k), rfl⟩
theorem of_any (n : Int) (w : World) (h1 : -9223372036854775807 < n) (h2 : n < 9223372036854775807) : Calls Tryz.prog 46 #[.int .i64 n] w (StrPost w (txtZ n)) := by
  by_cases h : n < 0
  · have := of_neg n.natAbs w (by omega) (by omega)
    rwa [show -((n.natAbs : Nat) : Int) = n by omega] at this
  · have := of_pos n.natAbs w (by omega)
    rwa [show ((n.natAbs : Nat) : Int) = n by omega] at this
set_option maxHeartbeats 1000000 in
set_option maxRecDepth 100000 in
theorem rof_any (n : Int) (w : World) (h1 : -9223372036854775807 < n) (h2 : n < 9223372036854775807) : Calls Tryz.prog 20 #[.int .i64 n] w (StrPost w (txtZ n)) := by
  have HO : Hid (∀ W, Calls Tryz.prog 46 #[.int .i64 n] W (StrPost W (txtZ n))) := fun W => of_any n W h1 h2
  go_enter Tryz.func20, Tryz.ntmps20
  go_wp2_with fail
  refine (HO.out _).mono ?_
  rintro e w1 ⟨rfl, b1⟩
  have B1 := Lib.hid b1
  clear b1
  go_wp2_with fail
  go_ret
  exact ⟨rfl, B1.out⟩
theorem bigZ_lt {z : Int} (h : z.natAbs < 10 ^ 19) : bigZ z = false := by
  have h1 := (decN_len_le z.natAbs 19 (by omega)).2 h
  unfold bigZ
  simp; omega
set_option maxHeartbeats 1000000 in
set_option maxRecDepth 100000 in
theorem ratio_ok (n d : Int) (w : World) (h1 : -9223372036854775807 < n) (h2 : n < 9223372036854775807) (h3 : 0 < d) (h4 : d < 9223372036854775807) : Calls Tryz.prog 33 #[.int .i64 n, .int .i64 d] w (SEPost w (ratT (ratN n d) (ratD n d)) 0) := by
  have HO : Hid (∀ W, Calls Tryz.prog 46 #[.int .i64 n] W (StrPost W (txtZ n))) := fun W => of_any n W h1 h2
  have HD : Hid (∀ W, Calls Tryz.prog 46 #[.int .i64 d] W (StrPost W (txtZ d))) := fun W => of_any d W (by omega) h4
  have bn : bigZ n = false := bigZ_lt (by omega)
  have bd : bigZ d = false := bigZ_lt (by omega)
  have HM : Hid (∀ W, Calls Tryz.prog 65 #[.string ⟨(txtZ n).toArray⟩, .string ⟨(txtZ d).toArray⟩] W (SEPost W (ratT (ratN n d) (ratD n d)) 0)) := fun W =>
    make_ok _ _ n d W (by have := bs_len _ bn; omega) (by have := bs_len _ bd; omega) rfl rfl bn bd (by omega)
  clear h1 h2 h3 h4 bn bd
  go_enter Tryz.func33, Tryz.ntmps33
  go_wp2_with fail
  refine (HO.out _).mono ?_
  rintro e w1 ⟨rfl, b1⟩
  have B1 := Lib.hid b1
  clear b1
  go_wp2_with fail
  refine (HD.out _).mono ?_
  rintro e w2 ⟨rfl, b2⟩
  have B2 := Lib.hid (B1.out.trans (b2.mono B1.out.size))
  clear b2
  go_wp2_with fail
  refine (HM.out _).mono ?_
  rintro e w3 ⟨rfl, b3⟩
  have B3 := Lib.hid (B2.out.trans (b3.mono B2.out.size))
  clear b3
  go_wp2_with fail
  go_ret2
  exact ⟨rfl, B3.out⟩


end Go.Proofs.YtnikhbdjlipcbaaGreatDoor

namespace Go.Proofs.YtnikhbdjlipcbaaGreatDoor
open Go.RowKit Go.Shelf

def Un (c : ByteArray) (u f : Int) : Prop := ∀ W, Calls Tryz.prog 14 #[.string c] W fun e w' => e = .returned (.tuple #[.int .i64 u, .int .i64 f]) ∧ Below W.heap.size W w'
def IiE (W : World) (a b : Int) (e : Ending) (w' : World) : Prop := e = .returned (.tuple #[.int .i64 a, .int .i64 b]) ∧ Below W.heap.size W w'
theorem un_none {c : ByteArray} (h : unitOf c.data.toList = none) : Hid (Un c 0 2) := fun W => by
  have := munit_any c W
  rw [h] at this
  exact this.mono fun e w' hh => hh
theorem un_some {c : ByteArray} {u : Nat} (h : unitOf c.data.toList = some u) : Hid (Un c (u : Int) 0) := fun W => by
  have := munit_any c W
  rw [h] at this
  exact this.mono fun e w' hh => hh

set_option maxHeartbeats 2000000 in
set_option maxRecDepth 100000 in
theorem tou_unit (r c : ByteArray) (k : Nat) (HU : Hid (Un c 0 2)) (w : World) :
    Calls Tryz.prog 13 #[.string r, .string c, .int .u8 (k : Int)] w (IiE w 0 2) := by
  go_enter Tryz.func13, Tryz.ntmps13
  go_wp2_with fail
  refine (HU.out _).mono ?_
  rintro e w1 ⟨rfl, b1⟩
  have B1 := Lib.hid b1
  clear b1
  go_wp2_with fail
  go_ret2
  exact ⟨rfl, B1.out⟩

set_option maxHeartbeats 2000000 in
set_option maxRecDepth 100000 in
theorem tou_mode (r c : ByteArray) (k : Nat) (u : Int) (HU : Hid (Un c u 0)) (t1 : decide ((4 : Int) < (k : Int)) = true) (w : World) :
    Calls Tryz.prog 13 #[.string r, .string c, .int .u8 (k : Int)] w (IiE w 0 2) := by
  go_enter Tryz.func13, Tryz.ntmps13
  go_wp2_with fail
  refine (HU.out _).mono ?_
  rintro e w1 ⟨rfl, b1⟩
  have B1 := Lib.hid b1
  clear b1
  go_wp2_with fail
  go_ret2
  exact ⟨rfl, B1.out⟩

set_option maxHeartbeats 2000000 in
set_option maxRecDepth 100000 in
theorem tou_form (r c : ByteArray) (k : Nat) (u : Nat) (HU : Hid (Un c (u : Int) 0)) (t1 : decide ((4 : Int) < (k : Int)) = false) (f0 : Int) (HC : Hid (∀ W, Calls Tryz.prog 35 #[.string r] W (ErrPost W f0))) (t2 : (f0 != 0) = true) (w : World) :
    Calls Tryz.prog 13 #[.string r, .string c, .int .u8 (k : Int)] w (IiE w 0 12) := by
  go_enter Tryz.func13, Tryz.ntmps13
  go_wp2_with fail
  refine (HU.out _).mono ?_
  rintro e w1 ⟨rfl, b1⟩
  have B1 := Lib.hid b1
  clear b1
  go_wp2_with fail
  refine (HC.out _).mono ?_
  rintro e w2 ⟨rfl, b2⟩
  have B2 := Lib.hid (B1.out.trans (b2.mono B1.out.size))
  clear b2
  go_wp2_with fail
  go_ret2
  exact ⟨rfl, B2.out⟩

set_option maxHeartbeats 2000000 in
set_option maxRecDepth 100000 in
theorem tou_mul (r c : ByteArray) (k : Nat) (u : Nat) (HU : Hid (Un c (u : Int) 0)) (t1 : decide ((4 : Int) < (k : Int)) = false) (HC : Hid (∀ W, Calls Tryz.prog 35 #[.string r] W (ErrPost W 0))) (P : Int) (HP : Hid (∀ W, Calls Tryz.prog 34 #[.int .i64 (u : Int)] W (RetI W P))) (p : ByteArray) (HO : Hid (∀ W, Calls Tryz.prog 20 #[.int .i64 P] W fun e w' => e = .returned (.string p) ∧ Below W.heap.size W w')) (x : ByteArray) (f1 : Int) (HM : Hid (∀ W, Calls Tryz.prog 36 #[.string r, .string p] W (StE W x f1))) (t3 : (f1 != 0) = true) (w : World) :
    Calls Tryz.prog 13 #[.string r, .string c, .int .u8 (k : Int)] w (IiE w 0 f1) := by
  go_enter Tryz.func13, Tryz.ntmps13
  go_wp2_with fail
  refine (HU.out _).mono ?_
  rintro e w1 ⟨rfl, b1⟩
  have B1 := Lib.hid b1
  clear b1
  go_wp2_with fail
  refine (HC.out _).mono ?_
  rintro e w2 ⟨rfl, b2⟩
  have B2 := Lib.hid (B1.out.trans (b2.mono B1.out.size))
  clear b2
  go_wp2_with fail
  refine (HP.out _).mono ?_
  rintro e w' ⟨rfl, rfl⟩
  go_wp2_with fail
  refine (HO.out _).mono ?_
  rintro e w3 ⟨rfl, b3⟩
  have B3 := Lib.hid (B2.out.trans (b3.mono B2.out.size))
  clear b3
  go_wp2_with fail
  refine (HM.out _).mono ?_
  rintro e w4 ⟨rfl, b4⟩
  have B4 := Lib.hid (B3.out.trans (b4.mono B3.out.size))
  clear b4
  go_wp2_with fail
  go_ret2
  exact ⟨rfl, B4.out⟩

set_option maxHeartbeats 2000000 in
set_option maxRecDepth 100000 in
theorem tou_round (r c : ByteArray) (k : Nat) (w : World) (u : Nat) (HU : Hid (Un c (u : Int) 0)) (t1 : decide ((4 : Int) < (k : Int)) = false) (HC : Hid (∀ W, Calls Tryz.prog 35 #[.string r] W (ErrPost W 0))) (P : Int) (HP : Hid (∀ W, Calls Tryz.prog 34 #[.int .i64 (u : Int)] W (RetI W P))) (p : ByteArray) (HO : Hid (∀ W, Calls Tryz.prog 20 #[.int .i64 P] W fun e w' => e = .returned (.string p) ∧ Below W.heap.size W w')) (x : ByteArray) (HM : Hid (∀ W, Calls Tryz.prog 36 #[.string r, .string p] W (StE W x 0))) (i : ByteArray) (f2 : Int) (HR : Hid (∀ W, Below w.heap.size w W → Calls Tryz.prog 37 #[.string x, .int .u8 (k : Int)] W (StE W i f2))) (t4 : (f2 != 0) = true) :
    Calls Tryz.prog 13 #[.string r, .string c, .int .u8 (k : Int)] w (IiE w 0 f2) := by
  go_enter Tryz.func13, Tryz.ntmps13
  go_wp2_with fail
  refine (HU.out _).mono ?_
  rintro e w1 ⟨rfl, b1⟩
  have B1 := Lib.hid b1
  clear b1
  go_wp2_with fail
  refine (HC.out _).mono ?_
  rintro e w2 ⟨rfl, b2⟩
  have B2 := Lib.hid (B1.out.trans (b2.mono B1.out.size))
  clear b2
  go_wp2_with fail
  refine (HP.out _).mono ?_
  rintro e w' ⟨rfl, rfl⟩
  go_wp2_with fail
  refine (HO.out _).mono ?_
  rintro e w3 ⟨rfl, b3⟩
  have B3 := Lib.hid (B2.out.trans (b3.mono B2.out.size))
  clear b3
  go_wp2_with fail
  refine (HM.out _).mono ?_
  rintro e w4 ⟨rfl, b4⟩
  have B4 := Lib.hid (B3.out.trans (b4.mono B3.out.size))
  clear b4
  go_wp2_with fail
  refine (HR.out _ B4.out).mono ?_
  rintro e w5 ⟨rfl, b5⟩
  have B5 := Lib.hid (B4.out.trans (b5.mono B4.out.size))
  clear b5
  go_wp2_with fail
  go_ret2
  exact ⟨rfl, B5.out⟩

set_option maxHeartbeats 2000000 in
set_option maxRecDepth 100000 in
theorem tou_big (r c : ByteArray) (k : Nat) (w : World) (u : Nat) (HU : Hid (Un c (u : Int) 0)) (t1 : decide ((4 : Int) < (k : Int)) = false) (HC : Hid (∀ W, Calls Tryz.prog 35 #[.string r] W (ErrPost W 0))) (P : Int) (HP : Hid (∀ W, Calls Tryz.prog 34 #[.int .i64 (u : Int)] W (RetI W P))) (p : ByteArray) (HO : Hid (∀ W, Calls Tryz.prog 20 #[.int .i64 P] W fun e w' => e = .returned (.string p) ∧ Below W.heap.size W w')) (x : ByteArray) (HM : Hid (∀ W, Calls Tryz.prog 36 #[.string r, .string p] W (StE W x 0))) (i : ByteArray) (HR : Hid (∀ W, Below w.heap.size w W → Calls Tryz.prog 37 #[.string x, .int .u8 (k : Int)] W (StE W i 0))) (n f3 : Int) (HT : Hid (∀ W, Calls Tryz.prog 38 #[.string i] W (IiE W n f3))) (t5 : (f3 != 0) = true) :
    Calls Tryz.prog 13 #[.string r, .string c, .int .u8 (k : Int)] w (IiE w 0 14) := by
  go_enter Tryz.func13, Tryz.ntmps13
  go_wp2_with fail
  refine (HU.out _).mono ?_
  rintro e w1 ⟨rfl, b1⟩
  have B1 := Lib.hid b1
  clear b1
  go_wp2_with fail
  refine (HC.out _).mono ?_
  rintro e w2 ⟨rfl, b2⟩
  have B2 := Lib.hid (B1.out.trans (b2.mono B1.out.size))
  clear b2
  go_wp2_with fail
  refine (HP.out _).mono ?_
  rintro e w' ⟨rfl, rfl⟩
  go_wp2_with fail
  refine (HO.out _).mono ?_
  rintro e w3 ⟨rfl, b3⟩
  have B3 := Lib.hid (B2.out.trans (b3.mono B2.out.size))
  clear b3
  go_wp2_with fail
  refine (HM.out _).mono ?_
  rintro e w4 ⟨rfl, b4⟩
  have B4 := Lib.hid (B3.out.trans (b4.mono B3.out.size))
  clear b4
  go_wp2_with fail
  refine (HR.out _ B4.out).mono ?_
  rintro e w5 ⟨rfl, b5⟩
  have B5 := Lib.hid (B4.out.trans (b5.mono B4.out.size))
  clear b5
  go_wp2_with fail
  refine (HT.out _).mono ?_
  rintro e w6 ⟨rfl, b6⟩
  have B6 := Lib.hid (B5.out.trans (b6.mono B5.out.size))
  clear b6
  go_wp2_with fail
  go_ret2
  exact ⟨rfl, B6.out⟩

set_option maxHeartbeats 2000000 in
set_option maxRecDepth 100000 in
theorem tou_amt (r c : ByteArray) (k : Nat) (w : World) (u : Nat) (HU : Hid (Un c (u : Int) 0)) (t1 : decide ((4 : Int) < (k : Int)) = false) (HC : Hid (∀ W, Calls Tryz.prog 35 #[.string r] W (ErrPost W 0))) (P : Int) (HP : Hid (∀ W, Calls Tryz.prog 34 #[.int .i64 (u : Int)] W (RetI W P))) (p : ByteArray) (HO : Hid (∀ W, Calls Tryz.prog 20 #[.int .i64 P] W fun e w' => e = .returned (.string p) ∧ Below W.heap.size W w')) (x : ByteArray) (HM : Hid (∀ W, Calls Tryz.prog 36 #[.string r, .string p] W (StE W x 0))) (i : ByteArray) (HR : Hid (∀ W, Below w.heap.size w W → Calls Tryz.prog 37 #[.string x, .int .u8 (k : Int)] W (StE W i 0))) (n : Int) (HT : Hid (∀ W, Calls Tryz.prog 38 #[.string i] W (IiE W n 0))) (HA : Hid (∀ W, Calls Tryz.prog 23 #[.int .i64 n] W (RetB W false))) :
    Calls Tryz.prog 13 #[.string r, .string c, .int .u8 (k : Int)] w (IiE w 0 14) := by
  go_enter Tryz.func13, Tryz.ntmps13
  go_wp2_with fail
  refine (HU.out _).mono ?_
  rintro e w1 ⟨rfl, b1⟩
  have B1 := Lib.hid b1
  clear b1
  go_wp2_with fail
  refine (HC.out _).mono ?_
  rintro e w2 ⟨rfl, b2⟩
  have B2 := Lib.hid (B1.out.trans (b2.mono B1.out.size))
  clear b2
  go_wp2_with fail
  refine (HP.out _).mono ?_
  rintro e w' ⟨rfl, rfl⟩
  go_wp2_with fail
  refine (HO.out _).mono ?_
  rintro e w3 ⟨rfl, b3⟩
  have B3 := Lib.hid (B2.out.trans (b3.mono B2.out.size))
  clear b3
  go_wp2_with fail
  refine (HM.out _).mono ?_
  rintro e w4 ⟨rfl, b4⟩
  have B4 := Lib.hid (B3.out.trans (b4.mono B3.out.size))
  clear b4
  go_wp2_with fail
  refine (HR.out _ B4.out).mono ?_
  rintro e w5 ⟨rfl, b5⟩
  have B5 := Lib.hid (B4.out.trans (b5.mono B4.out.size))
  clear b5
  go_wp2_with fail
  refine (HT.out _).mono ?_
  rintro e w6 ⟨rfl, b6⟩
  have B6 := Lib.hid (B5.out.trans (b6.mono B5.out.size))
  clear b6
  go_wp2_with fail
  refine (HA.out _).mono ?_
  rintro e w' ⟨rfl, rfl⟩
  go_wp2_with fail
  go_ret2
  exact ⟨rfl, B6.out⟩

set_option maxHeartbeats 2000000 in
set_option maxRecDepth 100000 in
theorem tou_go (r c : ByteArray) (k : Nat) (w : World) (u : Nat) (HU : Hid (Un c (u : Int) 0)) (t1 : decide ((4 : Int) < (k : Int)) = false) (HC : Hid (∀ W, Calls Tryz.prog 35 #[.string r] W (ErrPost W 0))) (P : Int) (HP : Hid (∀ W, Calls Tryz.prog 34 #[.int .i64 (u : Int)] W (RetI W P))) (p : ByteArray) (HO : Hid (∀ W, Calls Tryz.prog 20 #[.int .i64 P] W fun e w' => e = .returned (.string p) ∧ Below W.heap.size W w')) (x : ByteArray) (HM : Hid (∀ W, Calls Tryz.prog 36 #[.string r, .string p] W (StE W x 0))) (i : ByteArray) (HR : Hid (∀ W, Below w.heap.size w W → Calls Tryz.prog 37 #[.string x, .int .u8 (k : Int)] W (StE W i 0))) (n : Int) (HT : Hid (∀ W, Calls Tryz.prog 38 #[.string i] W (IiE W n 0))) (HA : Hid (∀ W, Calls Tryz.prog 23 #[.int .i64 n] W (RetB W true))) :
    Calls Tryz.prog 13 #[.string r, .string c, .int .u8 (k : Int)] w (IiE w n 0) := by
  go_enter Tryz.func13, Tryz.ntmps13
  go_wp2_with fail
  refine (HU.out _).mono ?_
  rintro e w1 ⟨rfl, b1⟩
  have B1 := Lib.hid b1
  clear b1
  go_wp2_with fail
  refine (HC.out _).mono ?_
  rintro e w2 ⟨rfl, b2⟩
  have B2 := Lib.hid (B1.out.trans (b2.mono B1.out.size))
  clear b2
  go_wp2_with fail
  refine (HP.out _).mono ?_
  rintro e w' ⟨rfl, rfl⟩
  go_wp2_with fail
  refine (HO.out _).mono ?_
  rintro e w3 ⟨rfl, b3⟩
  have B3 := Lib.hid (B2.out.trans (b3.mono B2.out.size))
  clear b3
  go_wp2_with fail
  refine (HM.out _).mono ?_
  rintro e w4 ⟨rfl, b4⟩
  have B4 := Lib.hid (B3.out.trans (b4.mono B3.out.size))
  clear b4
  go_wp2_with fail
  refine (HR.out _ B4.out).mono ?_
  rintro e w5 ⟨rfl, b5⟩
  have B5 := Lib.hid (B4.out.trans (b5.mono B4.out.size))
  clear b5
  go_wp2_with fail
  refine (HT.out _).mono ?_
  rintro e w6 ⟨rfl, b6⟩
  have B6 := Lib.hid (B5.out.trans (b6.mono B5.out.size))
  clear b6
  go_wp2_with fail
  refine (HA.out _).mono ?_
  rintro e w' ⟨rfl, rfl⟩
  go_wp2_with fail
  go_ret2
  exact ⟨rfl, B6.out⟩

set_option maxHeartbeats 2000000 in
set_option maxRecDepth 100000 in
theorem fru_unit (n : Int) (c : ByteArray) (w : World) (HU : Hid (Un c 0 2)) :
    Calls Tryz.prog 12 #[.int .i64 n, .string c] w (StE w ⟨#[]⟩ 2) := by
  go_enter Tryz.func12, Tryz.ntmps12
  go_wp2_with fail
  refine (HU.out _).mono ?_
  rintro e w1 ⟨rfl, b1⟩
  have B1 := Lib.hid b1
  clear b1
  go_wp2_with fail
  go_ret2
  exact ⟨rfl, B1.out⟩

set_option maxHeartbeats 2000000 in
set_option maxRecDepth 100000 in
theorem fru_amt (n : Int) (c : ByteArray) (w : World) (u : Int) (HU : Hid (Un c u 0)) (HA : Hid (∀ W, Calls Tryz.prog 23 #[.int .i64 n] W (RetB W false))) :
    Calls Tryz.prog 12 #[.int .i64 n, .string c] w (StE w ⟨#[]⟩ 2) := by
  go_enter Tryz.func12, Tryz.ntmps12
  go_wp2_with fail
  refine (HU.out _).mono ?_
  rintro e w1 ⟨rfl, b1⟩
  have B1 := Lib.hid b1
  clear b1
  go_wp2_with fail
  refine (HA.out _).mono ?_
  rintro e w' ⟨rfl, rfl⟩
  go_wp2_with fail
  go_ret2
  exact ⟨rfl, B1.out⟩

set_option maxHeartbeats 2000000 in
set_option maxRecDepth 100000 in
theorem fru_go (n : Int) (c : ByteArray) (w : World) (u P : Int) (HU : Hid (Un c u 0)) (HA : Hid (∀ W, Calls Tryz.prog 23 #[.int .i64 n] W (RetB W true))) (HP : Hid (∀ W, Calls Tryz.prog 34 #[.int .i64 u] W (RetI W P))) (x : ByteArray) (f : Int) (HR : Hid (∀ W, Calls Tryz.prog 33 #[.int .i64 n, .int .i64 P] W (StE W x f))) :
    Calls Tryz.prog 12 #[.int .i64 n, .string c] w (StE w x f) := by
  go_enter Tryz.func12, Tryz.ntmps12
  go_wp2_with fail
  refine (HU.out _).mono ?_
  rintro e w1 ⟨rfl, b1⟩
  have B1 := Lib.hid b1
  clear b1
  go_wp2_with fail
  refine (HA.out _).mono ?_
  rintro e w' ⟨rfl, rfl⟩
  go_wp2_with fail
  refine (HP.out _).mono ?_
  rintro e w' ⟨rfl, rfl⟩
  go_wp2_with fail
  refine (HR.out _).mono ?_
  rintro e w2 ⟨rfl, b2⟩
  have B2 := Lib.hid (B1.out.trans (b2.mono B1.out.size))
  clear b2
  go_wp2_with fail
  go_ret2
  exact ⟨rfl, B2.out⟩


/-- ToUnits, by value: a canonical number, a unit, a mode. -/
def touV (n d : Int) (u k : Nat) : Int × Int :=
  let z := roundZ k (ratN (n * (10 ^ u : Nat)) (d * 1)) (ratD (n * (10 ^ u : Nat)) (d * 1))
  if bigZ (n * (10 ^ u : Nat)) = true then (0, 14) else if amtOK z = false then (0, 14) else (z, 0)
theorem amtOK_big {z : Int} (h : bigZ z = true) : amtOK z = false := by
  cases e : amtOK z with
  | false => rfl
  | true =>
    unfold amtOK at e
    rw [decide_eq_true_eq] at e
    rw [bigZ_lt (by omega)] at h
    cases h
theorem toR_amt {z : Int} (h : amtOK z = true) : toR z = (z, 0) := by
  unfold amtOK at h
  rw [decide_eq_true_eq] at h
  exact toR_in (by omega) (by omega)
theorem chk_pos {k : Nat} (h : k < 5) : decide ((4 : Int) < (k : Int)) = false := by simp; omega
theorem tou_ok (r c : ByteArray) (n d : Int) (u k : Nat) (w : World) (hE : AwayEnv w) (hr : r.size ≤ 100000) (hu : unitOf c.data.toList = some u) (hk : k < 5) (hl : r.data.toList = ratT n d) (h : RatOK n d) :
    Calls Tryz.prog 13 #[.string r, .string c, .int .u8 (k : Int)] w (IiE w (touV n d u k).1 (touV n d u k).2) := by
  have hu3 := unit_le hu
  have HC : Hid (∀ W, Calls Tryz.prog 35 #[.string r] W (ErrPost W 0)) := fun W => by
    have := qrat_any r W hr
    rwa [hl, chkR_ratT h] at this
  have HP : Hid (∀ W, Calls Tryz.prog 34 #[.int .i64 (u : Int)] W (RetI W ((10 ^ u : Nat) : Int))) := fun W => power_any u W hu3
  have hp3 : 10 ^ u ≤ 1000 := Nat.pow_le_pow_right (by omega) (by omega : u ≤ 3)
  obtain ⟨P, hP⟩ : ∃ P : Nat, P = 10 ^ u := ⟨_, rfl⟩
  have hp0 : 0 < P := by rw [hP]; exact Nat.pow_pos (by omega)
  unfold touV
  rw [← hP] at HP hp3 ⊢
  have HO : Hid (∀ W, Calls Tryz.prog 20 #[.int .i64 (P : Int)] W fun e w' => e = .returned (.string ⟨(txtZ (P : Int)).toArray⟩) ∧ Below W.heap.size W w') := fun W => rof_any P W (by omega) (by omega)
  have bP : bigZ (P : Int) = false := bigZ_lt (by simp only [Int.natAbs_natCast]; omega)
  have hb2 : RatOK (P : Int) 1 := ⟨by decide, by simp, bP, bigZ_one⟩
  have HM : Hid (∀ W, Calls Tryz.prog 36 #[.string r, .string ⟨(txtZ (P : Int)).toArray⟩] W (StE W (mulS n d P 1) (mulF n d P 1))) := fun W =>
    rmul_ok r _ n d P 1 W hr (by have := bs_len _ bP; omega) hl (by unfold ratT; rw [if_pos rfl]) h hb2
  have bD : bigZ (d * 1) = false := by rw [Int.mul_one]; exact h.2.2.2
  have hU := un_some hu
  obtain ⟨N, hN⟩ : ∃ N, N = n * (P : Int) := ⟨_, rfl⟩
  by_cases hbN : bigZ N = true
  · have e1 : mulS n d P 1 = ⟨#[]⟩ := by unfold mulS; rw [if_pos (.inl (by rw [← hN]; exact hbN))]
    have e2 : mulF n d P 1 = 14 := by unfold mulF; rw [if_pos (.inl (by rw [← hN]; exact hbN))]
    rw [e1, e2] at HM
    simp only [← hN, hbN, if_true]
    exact tou_mul r c k u hU (chk_pos hk) HC _ HP _ HO _ 14 HM (by decide) w
  · have hbN' : bigZ N = false := by simpa using hbN
    have hno : ¬ (bigZ (n * (P : Int)) = true ∨ bigZ (d * 1) = true) := by
      rw [← hN, hbN', bD]; simp
    have e1 : mulS n d P 1 = ⟨(ratT (ratN N (d * 1)) (ratD N (d * 1))).toArray⟩ := by unfold mulS; rw [if_neg hno, hN]
    have e2 : mulF n d P 1 = 0 := by unfold mulF; rw [if_neg hno]
    rw [e1, e2] at HM
    have hd0 : d * 1 ≠ 0 := by have := h.1; omega
    have hrok := ratOK_make hd0 hbN' bD
    obtain ⟨z, hz⟩ : ∃ z, z = roundZ k (ratN N (d * 1)) (ratD N (d * 1)) := ⟨_, rfl⟩
    simp only [← hN, hbN', ← hz, Bool.false_eq_true, if_false]
    have hsz : (⟨(ratT (ratN N (d * 1)) (ratD N (d * 1))).toArray⟩ : ByteArray).size ≤ 100000 := by
      rw [← data_len]
      show (ratT (ratN N (d * 1)) (ratD N (d * 1))).length ≤ _
      have l1 := bs_len _ hrok.2.2.1
      have l2 := bs_len _ hrok.2.2.2
      rw [← data_len] at l1 l2
      have l1' : (txtZ (ratN N (d * 1))).length ≤ 1001 := l1
      have l2' : (txtZ (ratD N (d * 1))).length ≤ 1001 := l2
      unfold ratT
      split
      · omega
      · rw [List.length_append, List.length_cons]; omega
    have HR : ∀ W, Below w.heap.size w W → Calls Tryz.prog 37 #[.string ⟨(ratT (ratN N (d * 1)) (ratD N (d * 1))).toArray⟩, .int .u8 (k : Int)] W (StE W (if bigZ z = true then ⟨#[]⟩ else ⟨(txtZ z).toArray⟩) (if bigZ z = true then 14 else 0)) := fun W hW => by
      rw [hz]
      exact (round_ok _ _ _ k W (hE.below hW) hk hsz rfl hrok).mono fun e w' hh => hh.ste
    by_cases hbz : bigZ z = true
    · rw [amtOK_big hbz, if_pos rfl]
      simp only [hbz, if_true] at HR
      exact tou_round r c k w u hU (chk_pos hk) HC _ HP _ HO _ HM _ 14 (Lib.hid HR) (by decide)
    · have hbz' : bigZ z = false := by simpa using hbz
      simp only [hbz', Bool.false_eq_true, if_false] at HR
      have HT : ∀ W, Calls Tryz.prog 38 #[.string ⟨(txtZ z).toArray⟩] W (IiE W (toR z).1 (toR z).2) := fun W => to_ok _ z W (by have := bs_len _ hbz'; omega) rfl hbz'
      have HA := fun W => mamount_any z W
      by_cases ha : amtOK z = true
      · rw [toR_amt ha] at HT
        rw [ha] at HA ⊢
        rw [if_neg (by decide)]
        exact tou_go r c k w u hU (chk_pos hk) HC _ HP _ HO _ HM _ (Lib.hid HR) z (Lib.hid HT) (Lib.hid HA)
      · have ha' : amtOK z = false := by simpa using ha
        rw [ha', if_pos rfl]
        by_cases hf : (toR z).2 = 0
        · have e3 : (toR z).1 = z := by
            by_cases h : -9223372036854775808 ≤ z ∧ z ≤ 9223372036854775807
            · rw [toR_in h.1 h.2]
            · rw [toR_out (by omega)] at hf; cases hf
          rw [hf, e3] at HT
          rw [ha'] at HA
          exact tou_amt r c k w u hU (chk_pos hk) HC _ HP _ HO _ HM _ (Lib.hid HR) z (Lib.hid HT) (Lib.hid HA)
        · exact tou_big r c k w u hU (chk_pos hk) HC _ HP _ HO _ HM _ (Lib.hid HR) _ _ (Lib.hid HT) (by simpa using hf)
theorem fru_any (n : Int) (c : ByteArray) (w : World) : Calls Tryz.prog 12 #[.int .i64 n, .string c] w fun e w' => ((unitOf c.data.toList = none ∨ amtOK n = false) ∧ StE w ⟨#[]⟩ 2 e w') ∨ (∃ u, unitOf c.data.toList = some u ∧ amtOK n = true ∧ StE w ⟨(ratT (ratN n (10 ^ u : Nat)) (ratD n (10 ^ u : Nat))).toArray⟩ 0 e w') := by
  cases hu : unitOf c.data.toList with
  | none => exact (fru_unit n c w (un_none hu)).mono fun e w' hh => .inl ⟨.inl rfl, hh⟩
  | some u =>
    have hu3 := unit_le hu
    have HA := fun W => mamount_any n W
    cases ha : amtOK n with
    | false =>
      rw [ha] at HA
      exact (fru_amt n c w _ (un_some hu) (Lib.hid HA)).mono fun e w' hh => .inl ⟨.inr rfl, hh⟩
    | true =>
      rw [ha] at HA
      have hp3 : 10 ^ u ≤ 1000 := Nat.pow_le_pow_right (by omega) (by omega : u ≤ 3)
      have hp0 : 0 < 10 ^ u := Nat.pow_pos (by omega)
      have ha2 := ha
      unfold amtOK at ha2
      rw [decide_eq_true_eq] at ha2
      have HR : ∀ W, Calls Tryz.prog 33 #[.int .i64 n, .int .i64 ((10 ^ u : Nat) : Int)] W (StE W ⟨(ratT (ratN n (10 ^ u : Nat)) (ratD n (10 ^ u : Nat))).toArray⟩ 0) := fun W => ratio_ok n _ W (by omega) (by omega) (by omega) (by omega)
      exact (fru_go n c w _ _ (un_some hu) (Lib.hid HA) (Lib.hid fun W => power_any u W hu3) _ 0 (Lib.hid HR)).mono fun e w' hh => .inr ⟨u, rfl, rfl, hh⟩


end Go.Proofs.YtnikhbdjlipcbaaGreatDoor
