/-
  The program's Mul of rationals, by value; power, Of, Ratio. No condition.
-/
import Derived.Test.YtnikhbdjlipcbaaDoorVv
import Derived.Test.YtnikhbdjlipcbaaDoorVy
namespace Go.Proofs.YtnikhbdjlipcbaaDoor
open Go.RowKit Go.Shelf

theorem ratOK_make {x y : Int} (h0 : y ≠ 0) (bx : bigZ x = false) (byy : bigZ y = false) : RatOK (ratN x y) (ratD x y) := by
  have hgp : 0 < Nat.gcd x.natAbs y.natAbs := Nat.gcd_pos_of_pos_right _ (by omega)
  have hD : ratD x y = ((y.natAbs / Nat.gcd x.natAbs y.natAbs : Nat) : Int) := rfl
  have hN : (ratN x y).natAbs = x.natAbs / Nat.gcd x.natAbs y.natAbs := by
    unfold ratN
    have hd : ((Nat.gcd x.natAbs y.natAbs : Nat) : Int) ∣ (if y < 0 then -x else x) := by
      refine Int.ofNat_dvd_left.2 ?_
      split
      · rw [Int.natAbs_neg]; exact Nat.gcd_dvd_left _ _
      · exact Nat.gcd_dvd_left _ _
    rw [Int.natAbs_ediv_of_dvd hd, Int.natAbs_natCast]
    split
    · rw [Int.natAbs_neg]
    · rfl
  refine ⟨?_, ?_, ?_, ?_⟩
  · rw [hD]
    have : 0 < y.natAbs / Nat.gcd x.natAbs y.natAbs := Nat.div_pos (Nat.gcd_le_right _ (by omega)) hgp
    omega
  · rw [hN, hD, Int.natAbs_natCast]
    rw [Nat.gcd_div (Nat.gcd_dvd_left _ _) (Nat.gcd_dvd_right _ _), Nat.div_self hgp]
  · refine bigZ_small (x := x) ?_ bx
    rw [hN]; exact Nat.div_le_self _ _
  · rw [hD]
    refine bigZ_le (Nat.div_le_self _ _) ?_
    rw [bigZ_abs]; exact byy
def mulS (n1 d1 n2 d2 : Int) : ByteArray := if bigZ (n1 * n2) = true ∨ bigZ (d1 * d2) = true then ⟨#[]⟩ else ⟨(ratT (ratN (n1 * n2) (d1 * d2)) (ratD (n1 * n2) (d1 * d2))).toArray⟩
def mulF (n1 d1 n2 d2 : Int) : Int := if bigZ (n1 * n2) = true ∨ bigZ (d1 * d2) = true then 14 else 0
theorem mul_ste (x y : Int) (bx : bigZ x = false) (byy : bigZ y = false) : Hid (∀ W, Calls Tryd.prog 49 #[.string ⟨(txtZ x).toArray⟩, .string ⟨(txtZ y).toArray⟩] W (StE W (if bigZ (x * y) = true then ⟨#[]⟩ else ⟨(txtZ (x * y)).toArray⟩) (if bigZ (x * y) = true then 14 else 0))) := fun W =>
  (mul_ok _ _ x y W (by have := bs_len x bx; omega) (by have := bs_len y byy; omega) rfl rfl bx byy).mono fun _ _ hh => hh.ste
theorem rmul_ok (a b : ByteArray) (n1 d1 n2 d2 : Int) (w : World) (ha : a.size ≤ 100000) (hb : b.size ≤ 100000) (la : a.data.toList = ratT n1 d1) (lb : b.data.toList = ratT n2 d2) (h1 : RatOK n1 d1) (h2 : RatOK n2 d2) :
    Calls Tryd.prog 19 #[.string a, .string b] w (StE w (mulS n1 d1 n2 d2) (mulF n1 d1 n2 d2)) := by
  have HBO : Hid (∀ W, Calls Tryd.prog 47 #[.string a, .string b] W (BothP W ⟨(txtZ n1).toArray⟩ ⟨(txtZ n2).toArray⟩ ⟨(txtZ d1).toArray⟩ ⟨(txtZ d2).toArray⟩ 0)) := fun W =>
    both_any a b _ _ _ _ 0 0 W (Lib.hid fun W => parts_ok a n1 d1 W ha la h1) (fun _ => Lib.hid fun W => parts_ok b n2 d2 W hb lb h2) (fun h => absurd rfl h)
  obtain ⟨p1, _, bn1, bd1⟩ := h1
  obtain ⟨p2, _, bn2, bd2⟩ := h2
  have K1 : ∀ n0 n1' d0 d1', Hid (KeepAt 49 n0 n1' d0 d1' ⟨(txtZ n1).toArray⟩ ⟨(txtZ n2).toArray⟩ (if bigZ (n1 * n2) = true then ⟨#[]⟩ else ⟨(txtZ (n1 * n2)).toArray⟩) 0 (if bigZ (n1 * n2) = true then 14 else 0)) := fun n0 n1' d0 d1' W g bp bf hp hq hf => keep1_Mul g bp bf n0 n1' d0 d1' _ _ _ _ W hp hq hf (mul_ste n1 n2 bn1 bn2)
  by_cases hb1 : bigZ (n1 * n2) = true
  · have eS : mulS n1 d1 n2 d2 = ⟨#[]⟩ := by unfold mulS; rw [if_pos (.inl hb1)]
    have eF : mulF n1 d1 n2 d2 = 14 := by unfold mulF; rw [if_pos (.inl hb1)]
    rw [eS, eF]
    simp only [hb1, if_true] at K1
    exact rmul_go a b _ _ _ _ ⟨#[]⟩ ⟨#[]⟩ _ 0 14 14 14 w HBO (K1 _ _ _ _) (Lib.hid fun W g bp bf hp hq _ => keep1_err g bp bf _ _ _ _ _ _ 14 W (by decide) hp hq) (Lib.hid fun W g hp => made_err g _ _ _ _ _ _ 14 W (by decide) hp)
  · simp only [hb1, if_false, Bool.false_eq_true] at K1
    have K2 : ∀ n0 n1' d0 d1', Hid (KeepAt 49 n0 n1' d0 d1' ⟨(txtZ d1).toArray⟩ ⟨(txtZ d2).toArray⟩ (if bigZ (d1 * d2) = true then ⟨#[]⟩ else ⟨(txtZ (d1 * d2)).toArray⟩) 0 (if bigZ (d1 * d2) = true then 14 else 0)) := fun n0 n1' d0 d1' W g bp bf hp hq hf => keep1_Mul g bp bf n0 n1' d0 d1' _ _ _ _ W hp hq hf (mul_ste d1 d2 bd1 bd2)
    by_cases hb2 : bigZ (d1 * d2) = true
    · have eS : mulS n1 d1 n2 d2 = ⟨#[]⟩ := by unfold mulS; rw [if_pos (.inr hb2)]
      have eF : mulF n1 d1 n2 d2 = 14 := by unfold mulF; rw [if_pos (.inr hb2)]
      rw [eS, eF]
      simp only [hb2, if_true] at K2
      exact rmul_go a b _ _ _ _ _ ⟨#[]⟩ _ 0 0 14 14 w HBO (K1 _ _ _ _) (K2 _ _ _ _) (Lib.hid fun W g hp => made_err g _ _ _ _ _ _ 14 W (by decide) hp)
    · have eS : mulS n1 d1 n2 d2 = ⟨(ratT (ratN (n1 * n2) (d1 * d2)) (ratD (n1 * n2) (d1 * d2))).toArray⟩ := by unfold mulS; rw [if_neg (by rintro (h | h); exact hb1 h; exact hb2 h)]
      have eF : mulF n1 d1 n2 d2 = 0 := by unfold mulF; rw [if_neg (by rintro (h | h); exact hb1 h; exact hb2 h)]
      rw [eS, eF]
      simp only [hb2, if_false, Bool.false_eq_true] at K2
      have hb1' : bigZ (n1 * n2) = false := by simpa using hb1
      have hb2' : bigZ (d1 * d2) = false := by simpa using hb2
      have hd0 : d1 * d2 ≠ 0 := Int.ne_of_gt (Int.mul_pos p1 p2)
      have hmk : Hid (∀ W, Calls Tryd.prog 71 #[.string ⟨(txtZ (n1 * n2)).toArray⟩, .string ⟨(txtZ (d1 * d2)).toArray⟩] W (StE W ⟨(ratT (ratN (n1 * n2) (d1 * d2)) (ratD (n1 * n2) (d1 * d2))).toArray⟩ 0)) := fun W =>
        (make_ok _ _ (n1 * n2) (d1 * d2) W (by have := bs_len _ hb1'; omega) (by have := bs_len _ hb2'; omega) rfl rfl hb1' hb2' hd0).mono fun _ _ hh => hh
      exact rmul_go a b _ _ _ _ _ _ _ 0 0 0 0 w HBO (K1 _ _ _ _) (K2 _ _ _ _) (Lib.hid fun W g hp => made_go g _ _ _ _ _ _ _ 0 W hp hmk)

set_option maxHeartbeats 1000000 in
set_option maxRecDepth 100000 in
theorem power_any (u : Nat) (w : World) (hu : u ≤ 3) : Calls Tryd.prog 21 #[.int .i64 (u : Int)] w (RetI w ((10 ^ u : Nat) : Int)) := by
  go_enter Tryd.func21, Tryd.ntmps21
  go_wp2_with fail
  go_loop [3, 5] (fun n i => ∃ k : Nat, k ≤ u ∧ i = .int .i64 (k : Int) ∧ n = .int .i64 ((10 ^ k : Nat) : Int)) (fun _ i => u - (intOf i).toNat)
  case atStart => exact ⟨0, Nat.zero_le _, rfl, rfl⟩
  case round =>
    obtain ⟨k, hk, rfl, rfl⟩ := hrel
    have hp : 10 ^ k ≤ 1000 := Nat.pow_le_pow_right (by omega) (by omega : k ≤ 3)
    have HS : Hid (10 ^ (k + 1) = 10 ^ k * 10) := Nat.pow_succ ..
    obtain ⟨P, hP⟩ : ∃ P, P = 10 ^ k := ⟨_, rfl⟩
    rw [← hP] at hp HS ⊢
    by_cases hlt : k < u
    · clear hP
      go_wp2_with fail
      go_round
      case rel => exact ⟨k + 1, by omega, by go_num, by rw [HS.out]; congr 1⟩
      case measure => simp [intOf]; omega
    · obtain rfl : k = u := by omega
      have HP := Lib.hid hP
      clear hP
      go_wp2_with fail
      go_ret
      exact ⟨ret_int (by rw [HP.out]; exact Int.natCast_pow 10 k), rfl⟩
theorem of_any (n : Int) (w : World) (h1 : -9223372036854775807 < n) (h2 : n < 9223372036854775807) : Calls Tryd.prog 51 #[.int .i64 n] w (StrPost w (txtZ n)) := by
  by_cases h : n < 0
  · have := of_neg n.natAbs w (by omega) (by omega)
    rwa [show -((n.natAbs : Nat) : Int) = n by omega] at this
  · have := of_pos n.natAbs w (by omega)
    rwa [show ((n.natAbs : Nat) : Int) = n by omega] at this
set_option maxHeartbeats 1000000 in
set_option maxRecDepth 100000 in
theorem qof_any (n : Int) (w : World) (h1 : -9223372036854775807 < n) (h2 : n < 9223372036854775807) : Calls Tryd.prog 20 #[.int .i64 n] w (StrPost w (txtZ n)) := by
  have HO : Hid (∀ W, Calls Tryd.prog 51 #[.int .i64 n] W (StrPost W (txtZ n))) := fun W => of_any n W h1 h2
  go_enter Tryd.func20, Tryd.ntmps20
  go_wp2_with fail
  refine (HO.out _).mono ?_
  rintro e w1 ⟨rfl, b1⟩
  have B1 := Lib.hid b1
  clear b1
  go_wp2_with fail
  go_ret
  exact ⟨rfl, B1.out⟩
theorem bigZ_lt {z : Int} (h : z.natAbs < 10 ^ 19) : bigZ z = false := by
  have h1 := (decN_len_le z.natAbs 19 (by omega)).2 h
  unfold bigZ
  simp; omega
set_option maxHeartbeats 1000000 in
set_option maxRecDepth 100000 in
theorem ratio_ok (n d : Int) (w : World) (h1 : -9223372036854775807 < n) (h2 : n < 9223372036854775807) (h3 : 0 < d) (h4 : d < 9223372036854775807) : Calls Tryd.prog 32 #[.int .i64 n, .int .i64 d] w (SEPost w (ratT (ratN n d) (ratD n d)) 0) := by
  have HO : Hid (∀ W, Calls Tryd.prog 51 #[.int .i64 n] W (StrPost W (txtZ n))) := fun W => of_any n W h1 h2
  have HD : Hid (∀ W, Calls Tryd.prog 51 #[.int .i64 d] W (StrPost W (txtZ d))) := fun W => of_any d W (by omega) h4
  have bn : bigZ n = false := bigZ_lt (by omega)
  have bd : bigZ d = false := bigZ_lt (by omega)
  have HM : Hid (∀ W, Calls Tryd.prog 71 #[.string ⟨(txtZ n).toArray⟩, .string ⟨(txtZ d).toArray⟩] W (SEPost W (ratT (ratN n d) (ratD n d)) 0)) := fun W =>
    make_ok _ _ n d W (by have := bs_len _ bn; omega) (by have := bs_len _ bd; omega) rfl rfl bn bd (by omega)
  clear h1 h2 h3 h4 bn bd
  go_enter Tryd.func32, Tryd.ntmps32
  go_wp2_with fail
  refine (HO.out _).mono ?_
  rintro e w1 ⟨rfl, b1⟩
  have B1 := Lib.hid b1
  clear b1
  go_wp2_with fail
  refine (HD.out _).mono ?_
  rintro e w2 ⟨rfl, b2⟩
  have B2 := Lib.hid (B1.out.trans (b2.mono B1.out.size))
  clear b2
  go_wp2_with fail
  refine (HM.out _).mono ?_
  rintro e w3 ⟨rfl, b3⟩
  have B3 := Lib.hid (B2.out.trans (b3.mono B2.out.size))
  clear b3
  go_wp2_with fail
  go_ret2
  exact ⟨rfl, B3.out⟩


end Go.Proofs.YtnikhbdjlipcbaaDoor
