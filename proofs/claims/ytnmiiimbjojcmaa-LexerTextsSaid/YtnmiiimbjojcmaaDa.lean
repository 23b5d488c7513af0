/-
  Leap years and the lengths of months walked: the program's and the reference's. Condition: years up to 10000.
-/
import Derived.Test.YtnmiiimbjojcmaaRows
import Derived.Test.YtnmiiimbjojcmaaNum2
import Derived.Test.YtnmiiimbjojcmaaRet
import Derived.IntWalk
namespace Go.Proofs.Ytnmiiimbjojcmaa
open Go.RowKit

set_option maxHeartbeats 1000000 in
set_option maxRecDepth 100000 in
theorem leap_any (y : Nat) (w : World) (hy : y ≤ 10000) : Calls Try.prog 54 #[.int .i64 (y : Int)] w (RetB w (leapB y)) := by
  have hb : leapB y = (((y : Int) % 4 == 0) && (((y : Int) % 100 != 0) || ((y : Int) % 400 == 0))) := by
    unfold leapB
    rw [Bool.eq_iff_iff]
    simp
    omega
  rw [hb]
  obtain ⟨b1, h1⟩ : ∃ b, ((y : Int) % 4 == 0) = b := ⟨_, rfl⟩
  obtain ⟨b2, h2⟩ : ∃ b, ((y : Int) % 100 != 0) = b := ⟨_, rfl⟩
  obtain ⟨b3, h3⟩ : ∃ b, ((y : Int) % 400 == 0) = b := ⟨_, rfl⟩
  rw [h1, h2, h3]
  clear hb
  cases b1 <;> cases b2 <;> cases b3
  all_goals
    go_enter Try.func54, Try.ntmps54
    go_wp2
    go_ret
    exact ⟨rfl, rfl⟩

set_option maxHeartbeats 1000000 in
set_option maxRecDepth 100000 in
theorem rleap_any (y : Nat) (w : World) (hy : y ≤ 10000) : Calls Try.prog 56 #[.int .i64 (y : Int)] w (RetB w (leapB y)) := by
  have hb : leapB y = (((y : Int) % 400 == 0) || (!((y : Int) % 100 == 0) && ((y : Int) % 4 == 0))) := by
    unfold leapB
    rw [Bool.eq_iff_iff]
    simp
    omega
  rw [hb]
  obtain ⟨b1, h1⟩ : ∃ b, ((y : Int) % 4 == 0) = b := ⟨_, rfl⟩
  obtain ⟨b2, h2⟩ : ∃ b, ((y : Int) % 100 == 0) = b := ⟨_, rfl⟩
  obtain ⟨b3, h3⟩ : ∃ b, ((y : Int) % 400 == 0) = b := ⟨_, rfl⟩
  rw [h1, h2, h3]
  clear hb
  cases b1 <;> cases b2 <;> cases b3
  all_goals
    go_enter Try.func56, Try.ntmps56
    go_wp2
    go_ret
    exact ⟨rfl, rfl⟩

theorem longN_2 (y : Nat) : longN y 2 = if leapB y = true then 29 else 28 := rfl
set_option maxHeartbeats 1000000 in
set_option maxRecDepth 100000 in
theorem long_any' (y m : Nat) (w : World) (hy : y ≤ 10000) (h1 : 1 ≤ m) (h2 : m ≤ 12) : Calls Try.prog 42 #[.int .i64 (y : Int), .int .i64 (m : Int)] w (RetI w (longN y m : Int)) := by
  have hm : m = 1 ∨ m = 2 ∨ m = 3 ∨ m = 4 ∨ m = 5 ∨ m = 6 ∨ m = 7 ∨ m = 8 ∨ m = 9 ∨ m = 10 ∨ m = 11 ∨ m = 12 := by omega
  rcases hm with rfl | rfl | rfl | rfl | rfl | rfl | rfl | rfl | rfl | rfl | rfl | rfl
  case inr.inl =>
    have HL := Lib.hid (fun W => rleap_any y W hy)
    rw [longN_2]
    obtain ⟨b, hb⟩ : ∃ b, b = leapB y := ⟨_, rfl⟩
    rw [← hb] at HL ⊢
    clear hb
    cases b
    · go_enter Try.func42, Try.ntmps42
      go_wp2_with fail
      refine (HL.out _).mono ?_
      rintro e w' ⟨rfl, rfl⟩
      go_wp2
      go_ret
      exact ⟨rfl, rfl⟩
    · go_enter Try.func42, Try.ntmps42
      go_wp2_with fail
      refine (HL.out _).mono ?_
      rintro e w' ⟨rfl, rfl⟩
      go_wp2
      go_ret
      exact ⟨rfl, rfl⟩
  all_goals
    go_enter Try.func42, Try.ntmps42
    go_wp2
    go_ret
    exact ⟨rfl, rfl⟩

set_option maxHeartbeats 1000000 in
set_option maxRecDepth 100000 in
theorem leaps_any (y : Nat) (w : World) (hy : y ≤ 10000) : Calls Try.prog 53 #[.int .i64 (y : Int)] w (RetI w (leapsN y : Int)) := by
  obtain ⟨a, ha⟩ : ∃ a, a = y / 4 := ⟨_, rfl⟩
  obtain ⟨b, hb⟩ : ∃ b, b = y / 100 := ⟨_, rfl⟩
  obtain ⟨c, hc⟩ : ∃ c, c = y / 400 := ⟨_, rfl⟩
  have ha' : (y : Int) / 4 = (a : Int) := by omega
  have hb' : (y : Int) / 100 = (b : Int) := by omega
  have hc' : (y : Int) / 400 = (c : Int) := by omega
  have hl : (leapsN y : Int) = (a : Int) - (b : Int) + (c : Int) := by unfold leapsN; omega
  have l1 : b ≤ a := by omega
  have l2 : a ≤ 10000 := by omega
  have l3 : c ≤ 10000 := by omega
  rw [hl]
  clear hl ha hb hc
  go_enter Try.func53, Try.ntmps53
  go_wp2
  go_ret
  exact ⟨rfl, rfl⟩

set_option maxHeartbeats 1000000 in
set_option maxRecDepth 100000 in
theorem first_any' (y : Nat) (w : World) (h1 : 1900 ≤ y) (hy : y ≤ 10000) : Calls Try.prog 39 #[.int .i64 (y : Int)] w (RetI w (yd y : Int)) := by
  obtain ⟨k, rfl⟩ : ∃ k, y = k + 1 := ⟨y - 1, by omega⟩
  have hl := leaps_ge (y := k) (by omega)
  have H1 := Lib.hid (fun W => leaps_any k W (by omega))
  have H2 := Lib.hid (fun W => leaps_any 1899 W (by omega))
  have e2 : (leapsN 1899 : Int) = 460 := by decide
  have hu : leapsN k ≤ 10000 := by unfold leapsN; omega
  obtain ⟨L, hL⟩ : ∃ L, L = leapsN k := ⟨_, rfl⟩
  have hy' : (yd (k + 1) : Int) = 365 * ((k : Int) + 1 - 1900) + (L : Int) - 460 := by unfold yd; rw [Nat.add_sub_cancel, ← hL]; omega
  rw [hy']
  rw [← hL] at H1 hl hu
  rw [e2] at H2
  have ek : ((k + 1 : Nat) : Int) = (k : Int) + 1 := by omega
  rw [ek]
  clear hy' hL e2 ek
  go_enter Try.func39, Try.ntmps39
  go_wp2_with fail
  refine (H1.out _).mono ?_
  rintro e w' ⟨rfl, rfl⟩
  go_wp2_with fail
  refine (H2.out _).mono ?_
  rintro e w' ⟨rfl, rfl⟩
  go_wp2
  go_ret
  exact ⟨rfl, rfl⟩

end Go.Proofs.Ytnmiiimbjojcmaa
