/-
  The reference's Make of rationals, by value (a positive divisor). No condition.
-/
import Derived.Test.YtnmiiimbjojcmaaGreatDoorYd
import Derived.Test.YtnmiiimbjojcmaaGreatDoorYe
import Derived.Test.YtnmiiimbjojcmaaGreatDoorXb
namespace Go.Proofs.YtnmiiimbjojcmaaGreatDoor
open Go.RowKit Go.Shelf

set_option maxHeartbeats 2000000 in
set_option maxRecDepth 100000 in
theorem rmake2_go (s t g n d r1 r2 : ByteArray) (one : Bool) (w : World) (h0 : 0 < t.size) (t0 : (t.toList == [48]) = false) (t1 : ((t[0].toNat : Int) == 45) = false)
    (HB : Hid (∀ W, Calls Tryz.prog 93 #[.string s, .string t] W (ErrPost W 0)))
    (HG : Hid (∀ W, Calls Tryz.prog 95 #[.string s, .string t] W (GPost W g)))
    (HN : Hid (∀ W, Calls Tryz.prog 96 #[.string s, .string g] W fun e w' => e = .returned (.tuple #[.string n, .string r1, .int .i64 0]) ∧ Below W.heap.size W w'))
    (HD : Hid (∀ W, Calls Tryz.prog 96 #[.string t, .string g] W fun e w' => e = .returned (.tuple #[.string d, .string r2, .int .i64 0]) ∧ Below W.heap.size W w'))
    (t2 : (d.toList == [49]) = one) (hl : n.size + d.size ≤ 1000000) :
    Calls Tryz.prog 73 #[.string s, .string t] w (StE w (if one = true then n else n ++ ⟨#[47]⟩ ++ d) 0) := by
  cases one <;> simp only [if_true, Bool.false_eq_true, if_false]
  all_goals
    go_enter Tryz.func73, Tryz.ntmps73
    go_wp2_with fail
    refine (HB.out _).mono ?_
    rintro e w1 ⟨rfl, b1⟩
    have B1 := Lib.hid (b1)
    clear b1
    go_wp2_with fail
    refine (HG.out _).mono ?_
    rintro e w2 ⟨rfl, b2⟩
    have B2 := Lib.hid (B1.out.trans (b2.mono B1.out.size))
    clear b2
    go_wp2_with fail
    refine (HN.out _).mono ?_
    rintro e w3 ⟨rfl, b3⟩
    have B3 := Lib.hid (B2.out.trans (b3.mono B2.out.size))
    clear b3
    go_wp2_with fail
    refine (HD.out _).mono ?_
    rintro e w4 ⟨rfl, b4⟩
    have B4 := Lib.hid (B3.out.trans (b4.mono B3.out.size))
    clear b4
    go_wp2_with fail
    go_ret2
    exact ⟨rfl, B4.out⟩

theorem bs_one (z : Int) : ((⟨(txtZ z).toArray⟩ : ByteArray).toList == [49]) = decide (z = 1) := by
  rw [toList_data, Bool.eq_iff_iff, beq_iff_eq, decide_eq_true_eq]
  constructor
  · intro h
    have : txtZ z = txtZ 1 := h.trans txtZ_1.symm
    exact txtZ_inj this
  · intro h; rw [h]; exact txtZ_1
theorem rmake2_ok (x y : Int) (w : World) (bx : bigZ x = false) (byy : bigZ y = false) (hy : 0 < y) :
    Calls Tryz.prog 73 #[.string ⟨(txtZ x).toArray⟩, .string ⟨(txtZ y).toArray⟩] w (StE w ⟨(ratT (ratN x y) (ratD x y)).toArray⟩ 0) := by
  have lx := bs_len x bx
  have ly := bs_len y byy
  have hgp : 0 < Nat.gcd x.natAbs y.natAbs := Nat.gcd_pos_of_pos_right _ (by omega)
  have bg : bigZ (Nat.gcd x.natAbs y.natAbs : Int) = false := bigZ_le (Nat.gcd_le_right _ (by omega)) (by rw [show ((y.natAbs : Nat) : Int) = y by omega]; exact byy)
  have lg := bs_len _ bg
  have hN : ratN x y = x / (Nat.gcd x.natAbs y.natAbs : Int) := by unfold ratN; rw [if_neg (by omega)]
  have hD : ratD x y = y / (Nat.gcd x.natAbs y.natAbs : Int) := by unfold ratD; rw [show (y.natAbs : Int) = y by omega]
  have hro := ratOK_mk (x := x) (y := y) (by omega) bx byy
  have ln := bs_len _ hro.2.2.1
  have ld := bs_len _ hro.2.2.2
  have h := rmake2_go ⟨(txtZ x).toArray⟩ ⟨(txtZ y).toArray⟩ ⟨(txtZ (Nat.gcd x.natAbs y.natAbs : Int)).toArray⟩ ⟨(txtZ (ratN x y)).toArray⟩ ⟨(txtZ (ratD x y)).toArray⟩ _ _ (decide (ratD x y = 1)) w (bs_pos y) (by rw [bs_zero]; exact decide_eq_false (by omega)) (by rw [bs_minus]; exact decide_eq_false (by omega))
    (Lib.hid fun W => by have := rboth_any ⟨(txtZ x).toArray⟩ ⟨(txtZ y).toArray⟩ W (by omega) (by omega); rwa [show (⟨(txtZ x).toArray⟩ : ByteArray).data.toList = txtZ x from rfl, show (⟨(txtZ y).toArray⟩ : ByteArray).data.toList = txtZ y from rfl, bothZ_ok bx byy] at this)
    (Lib.hid fun W => rgcd_of _ _ x y W rfl rfl bx byy (by omega) (by omega))
    (Lib.hid fun W => by rw [hN]; exact ridm_ok _ _ x _ W (by omega) (by omega) rfl rfl bx bg (by omega))
    (Lib.hid fun W => by rw [hD]; exact ridm_ok _ _ y _ W (by omega) (by omega) rfl rfl byy bg (by omega))
    (bs_one _) (by omega)
  have e : (if decide (ratD x y = 1) = true then (⟨(txtZ (ratN x y)).toArray⟩ : ByteArray) else ⟨(txtZ (ratN x y)).toArray⟩ ++ ⟨#[47]⟩ ++ ⟨(txtZ (ratD x y)).toArray⟩) = ⟨(ratT (ratN x y) (ratD x y)).toArray⟩ := by
    unfold ratT
    by_cases h1 : ratD x y = 1
    · rw [if_pos (decide_eq_true h1), if_pos h1]
    · rw [if_neg (by simpa using h1), if_neg h1]
      refine Go.WideShapes.bytes_inj ?_
      rw [bytes_app, bytes_app]
      simp
  rwa [e] at h

end Go.Proofs.YtnmiiimbjojcmaaGreatDoor
