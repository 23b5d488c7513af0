/-
  The reference's day of a year, a month, a day of the month, with its error. No condition.
-/
import Derived.Test.YtnmiiimbjojcmaaGreatDoorWc
import Derived.Test.YtnmiiimbjojcmaaGreatDoorVa
namespace Go.Proofs.YtnmiiimbjojcmaaGreatDoor
open Go.RowKit

/-- A number and its error. -/
def NumQ (w : World) (v q : Int) (e : Ending) (w' : World) : Prop := e = .returned (.tuple #[.int .i64 v, .int .i64 q]) ∧ Below w.heap.size w w'
theorem in3_is {n a b : Int} {r : Bool} (h : inB n a b = r) : Hid (∀ W, Calls Tryz.prog 68 #[.int .i64 n, .int .i64 a, .int .i64 b] W (RetB W r)) := fun W => h ▸ in3_any n a b W

set_option maxHeartbeats 1000000 in
set_option maxRecDepth 100000 in
theorem rof_no1 (y m d : Int) (w : World) (I1 : Hid (∀ W, Calls Tryz.prog 68 #[.int .i64 y, .int .i64 1900, .int .i64 2173] W (RetB W false))) :
    Calls Tryz.prog 48 #[.int .i64 y, .int .i64 m, .int .i64 d] w (NumQ w 0 2) := by
  go_enter Tryz.func48, Tryz.ntmps48
  go_wp2_with fail
  refine (I1.out _).mono ?_
  rintro e w' ⟨rfl, rfl⟩
  go_wp2_with fail
  go_ret2
  exact ⟨rfl, Below.refl _ _⟩
set_option maxHeartbeats 1000000 in
set_option maxRecDepth 100000 in
theorem rof_no2 (y m d : Int) (w : World) (I1 : Hid (∀ W, Calls Tryz.prog 68 #[.int .i64 y, .int .i64 1900, .int .i64 2173] W (RetB W true)))
    (I2 : Hid (∀ W, Calls Tryz.prog 68 #[.int .i64 m, .int .i64 1, .int .i64 12] W (RetB W false))) :
    Calls Tryz.prog 48 #[.int .i64 y, .int .i64 m, .int .i64 d] w (NumQ w 0 2) := by
  go_enter Tryz.func48, Tryz.ntmps48
  go_wp2_with fail
  refine (I1.out _).mono ?_
  rintro e w' ⟨rfl, rfl⟩
  go_wp2_with fail
  refine (I2.out _).mono ?_
  rintro e w' ⟨rfl, rfl⟩
  go_wp2_with fail
  go_ret2
  exact ⟨rfl, Below.refl _ _⟩
set_option maxHeartbeats 1000000 in
set_option maxRecDepth 100000 in
theorem rof_no3 (y m d n : Int) (w : World) (I1 : Hid (∀ W, Calls Tryz.prog 68 #[.int .i64 y, .int .i64 1900, .int .i64 2173] W (RetB W true)))
    (I2 : Hid (∀ W, Calls Tryz.prog 68 #[.int .i64 m, .int .i64 1, .int .i64 12] W (RetB W true)))
    (IL : Hid (∀ W, Calls Tryz.prog 69 #[.int .i64 y, .int .i64 m] W (RetI W n)))
    (I3 : Hid (∀ W, Calls Tryz.prog 68 #[.int .i64 d, .int .i64 1, .int .i64 n] W (RetB W false))) :
    Calls Tryz.prog 48 #[.int .i64 y, .int .i64 m, .int .i64 d] w (NumQ w 0 2) := by
  go_enter Tryz.func48, Tryz.ntmps48
  go_wp2_with fail
  refine (I1.out _).mono ?_
  rintro e w' ⟨rfl, rfl⟩
  go_wp2_with fail
  refine (I2.out _).mono ?_
  rintro e w' ⟨rfl, rfl⟩
  go_wp2_with fail
  refine (IL.out _).mono ?_
  rintro e w' ⟨rfl, rfl⟩
  go_wp2_with fail
  refine (I3.out _).mono ?_
  rintro e w' ⟨rfl, rfl⟩
  go_wp2_with fail
  go_ret2
  exact ⟨rfl, Below.refl _ _⟩

def RofY (d y : Nat) (dv iv : Value) : Prop := ∃ i : Nat, 1900 ≤ i ∧ i ≤ y ∧ iv = .int .i64 (i : Int) ∧ dv = .int .i64 ((yd i + (d - 1) : Nat) : Int)
def RofM (d y m : Nat) (dv iv : Value) : Prop := ∃ i : Nat, 1 ≤ i ∧ i ≤ m ∧ iv = .int .i64 (i : Int) ∧ dv = .int .i64 ((yd y + mdR y (i - 1) + (d - 1) : Nat) : Int)
set_option maxHeartbeats 2000000 in
set_option maxRecDepth 100000 in
theorem rof_go (y m d n : Nat) (w : World) (hy1 : 1900 ≤ y) (hy2 : y ≤ 2173) (hm1 : 1 ≤ m) (hm2 : m ≤ 12) (hd1 : 1 ≤ d) (hd2 : d ≤ 31)
    (I1 : Hid (∀ W, Calls Tryz.prog 68 #[.int .i64 (y : Int), .int .i64 1900, .int .i64 2173] W (RetB W true)))
    (I2 : Hid (∀ W, Calls Tryz.prog 68 #[.int .i64 (m : Int), .int .i64 1, .int .i64 12] W (RetB W true)))
    (IL : Hid (∀ W, Calls Tryz.prog 69 #[.int .i64 (y : Int), .int .i64 (m : Int)] W (RetI W (n : Int))))
    (I3 : Hid (∀ W, Calls Tryz.prog 68 #[.int .i64 (d : Int), .int .i64 1, .int .i64 (n : Int)] W (RetB W true))) :
    Calls Tryz.prog 48 #[.int .i64 (y : Int), .int .i64 (m : Int), .int .i64 (d : Int)] w (NumQ w (if yd y + mdR y (m - 1) + (d - 1) ≤ 99999 then ((yd y + mdR y (m - 1) + (d - 1) : Nat) : Int) else 0) (if yd y + mdR y (m - 1) + (d - 1) ≤ 99999 then 0 else 2)) := by
  obtain ⟨R, hR⟩ : ∃ R : Int, R = (if yd y + mdR y (m - 1) + (d - 1) ≤ 99999 then ((yd y + mdR y (m - 1) + (d - 1) : Nat) : Int) else 0) := ⟨_, rfl⟩
  obtain ⟨Q, hQ⟩ : ∃ Q : Int, Q = (if yd y + mdR y (m - 1) + (d - 1) ≤ 99999 then 0 else 2) := ⟨_, rfl⟩
  rw [← hR, ← hQ]
  have HRP : Hid (yd y + mdR y (m - 1) + (d - 1) ≤ 99999 → R = ((yd y + mdR y (m - 1) + (d - 1) : Nat) : Int) ∧ Q = 0) := fun h => by rw [hR, hQ, if_pos h, if_pos h]; exact ⟨rfl, rfl⟩
  have HRN : Hid (¬yd y + mdR y (m - 1) + (d - 1) ≤ 99999 → R = 0 ∧ Q = 2) := fun h => by rw [hR, hQ, if_neg h, if_neg h]; exact ⟨rfl, rfl⟩
  clear hR hQ
  have HS1 : Hid (RofY d y (.int .i64 ((d : Int) - 1)) (.int .i64 1900)) := ⟨1900, Nat.le_refl _, hy1, rfl, by rw [yd_start]; congr 1; omega⟩
  have HY : Hid (∀ i, 1900 ≤ i → i ≤ y → yd i ≤ 200000) := fun i h1 h2 => by
    have a := yd_mono (a := i) (b := 2174) h1 (by omega)
    have b : yd 2174 = 100077 := by decide
    omega
  have HM : Hid (∀ i, i ≤ m → mdR y (i - 1) ≤ 372) := fun i hi => by
    have a := mdR_mono y (a := i - 1) (b := 12) (by omega)
    rw [mdR_12] at a
    split at a <;> omega
  go_enter Tryz.func48, Tryz.ntmps48
  go_wp2_with fail
  refine (I1.out _).mono ?_
  rintro e w' ⟨rfl, rfl⟩
  go_wp2_with fail
  refine (I2.out _).mono ?_
  rintro e w' ⟨rfl, rfl⟩
  go_wp2_with fail
  refine (IL.out _).mono ?_
  rintro e w' ⟨rfl, rfl⟩
  go_wp2_with fail
  refine (I3.out _).mono ?_
  rintro e w' ⟨rfl, rfl⟩
  go_wp2_with fail
  clear I1 I2 I3 IL
  go_loop [8, 9] (RofY d y) (fun _ i => y - (intOf i).toNat)
  case atStart => exact HS1.out
  case round =>
    obtain ⟨i, hi1, hi2, rfl, rfl⟩ := hrel
    by_cases hlt : i < y
    · have hL := rleap_any i w (by omega)
      have hb := HY.out i hi1 hi2
      have hs := yd_succ hi1
      obtain ⟨z, hz⟩ : ∃ z, z = leapB i := ⟨_, rfl⟩
      rw [← hz] at hL hs
      obtain ⟨Y, hY⟩ : ∃ Y, Y = yd i := ⟨_, rfl⟩
      rw [← hY] at hb hs ⊢
      have HSS : Hid (RofY d y (.int .i64 (((Y + (d - 1) : Nat) : Int) + 365 + (if z = true then 1 else 0))) (.int .i64 ((i : Int) + 1))) := ⟨i + 1, by omega, by omega, rfl, by rw [hs]; congr 1; split <;> omega⟩
      have HL := Lib.hid hL
      clear hL hs hz hY HS1
      cases z
      all_goals
        have HSS := HSS.out
        simp only [Bool.false_eq_true, if_true, if_false, Int.add_zero] at HSS
        have HSS := Lib.hid HSS
        go_wp2_with fail
        refine HL.out.mono ?_
        rintro e w' ⟨rfl, rfl⟩
        go_wp2_with fail
        go_round
        case rel => exact HSS.out
        case measure => simp [intOf]; omega
    · obtain rfl : i = y := by omega
      have hby := HY.out i hi1 hi2
      have HS2 : Hid (RofM d i m (.int .i64 ((yd i + (d - 1) : Nat) : Int)) (.int .i64 1)) := ⟨1, Nat.le_refl _, hm1, rfl, by simp [mdR]⟩
      clear HS1 hlt
      go_wp2_with fail
      go_loop [8, 10] (RofM d i m) (fun _ j => m - (intOf j).toNat)
      case atStart => exact HS2.out
      case round =>
        obtain ⟨j, hj1, hj2, rfl, rfl⟩ := hrel
        have hbm := HM.out j hj2
        by_cases hjl : j < m
        · have hL := long_any' i j w (by omega) hj1 (by omega)
          have hs : mdR i (j + 1 - 1) = mdR i (j - 1) + longN i j := by
            obtain ⟨k, rfl⟩ : ∃ k, j = k + 1 := ⟨j - 1, by omega⟩
            rfl
          have hl31 := longN_le i j
          obtain ⟨z, hz⟩ : ∃ z, z = longN i j := ⟨_, rfl⟩
          rw [← hz] at hL hs hl31
          obtain ⟨M, hM⟩ : ∃ M, M = mdR i (j - 1) := ⟨_, rfl⟩
          rw [← hM] at hs hbm ⊢
          have HSS : Hid (RofM d i m (.int .i64 ((yd i : Int) + (M : Int) + ((d - 1 : Nat) : Int) + (z : Int))) (.int .i64 ((j : Int) + 1))) := ⟨j + 1, by omega, by omega, rfl, by rw [hs]; congr 1; omega⟩
          have HL := Lib.hid hL
          clear hL hs hz hM HS2
          go_wp2_with fail
          refine HL.out.mono ?_
          rintro e w' ⟨rfl, rfl⟩
          go_wp2_with fail
          go_round
          case rel => exact HSS.out
          case measure => simp [intOf]; omega
        · obtain rfl : j = m := by omega
          obtain ⟨D, hD⟩ : ∃ D, D = yd i + mdR i (j - 1) + (d - 1) := ⟨_, rfl⟩
          have HRP := HRP.out
          have HRN := HRN.out
          rw [← hD] at HRP HRN ⊢
          have HRP := Lib.hid HRP
          have HRN := Lib.hid HRN
          have hD2 : D ≤ 300000 := by omega
          by_cases h9 : D ≤ 99999
          · have HR := rday_is (n := (D : Int)) (b := true) (by unfold inB; simp; omega)
            have e := Lib.hid (HRP.out h9)
            clear HS2 HM HY hD HRP HRN
            go_wp2_with fail
            refine (HR.out _).mono ?_
            rintro e w' ⟨rfl, rfl⟩
            go_wp2_with fail
            go_ret2
            exact ⟨ret_two e.out.1.symm e.out.2.symm, Below.refl _ _⟩
          · have HR := rday_is (n := (D : Int)) (b := false) (by unfold inB; simp; omega)
            have e := Lib.hid (HRN.out h9)
            clear HS2 HM HY hD HRP HRN
            go_wp2_with fail
            refine (HR.out _).mono ?_
            rintro e w' ⟨rfl, rfl⟩
            go_wp2_with fail
            go_ret2
            exact ⟨ret_two e.out.1.symm e.out.2.symm, Below.refl _ _⟩

/-- The reference's day of three numbers, and its error. -/
theorem rof_exact (y m d : Nat) : ∃ v q : Int, (∀ w, Calls Tryz.prog 48 #[.int .i64 (y : Int), .int .i64 (m : Int), .int .i64 (d : Int)] w (NumQ w v q)) ∧
    ((1900 ≤ y ∧ 1 ≤ m ∧ m ≤ 12 ∧ 1 ≤ d ∧ d ≤ longN y m ∧ yd y + mdR y (m - 1) + d ≤ 100000) → v = ((yd y + mdR y (m - 1) + d - 1 : Nat) : Int) ∧ q = 0) ∧
    (¬ (1900 ≤ y ∧ 1 ≤ m ∧ m ≤ 12 ∧ 1 ≤ d ∧ d ≤ longN y m ∧ yd y + mdR y (m - 1) + d ≤ 100000) → q ≠ 0) := by
  by_cases h1 : 1900 ≤ y ∧ y ≤ 2173
  · by_cases h2 : 1 ≤ m ∧ m ≤ 12
    · by_cases h3 : 1 ≤ d ∧ d ≤ longN y m
      · have hl := longN_le y m
        refine ⟨_, _, fun w => rof_go y m d (longN y m) w h1.1 h1.2 h2.1 h2.2 h3.1 (by omega) (in3_is (by unfold inB; simp; omega)) (in3_is (by unfold inB; simp; omega)) (longR_is y m _ (by omega) h2.1 h2.2 rfl) (in3_is (by unfold inB; simp; omega)), ?_, ?_⟩
        · rintro ⟨_, _, _, _, _, h⟩
          rw [if_pos (by omega), if_pos (by omega)]
          exact ⟨by congr 1; omega, rfl⟩
        · intro h
          rw [if_neg (by intro e; exact h ⟨h1.1, h2.1, h2.2, h3.1, h3.2, by omega⟩)]
          decide
      · exact ⟨0, 2, fun w => rof_no3 y m d (longN y m) w (in3_is (by unfold inB; simp; omega)) (in3_is (by unfold inB; simp; omega)) (longR_is y m _ (by omega) h2.1 h2.2 rfl) (in3_is (by unfold inB; simp; omega)), fun ⟨_, _, _, a, b, _⟩ => absurd ⟨a, b⟩ h3, fun _ => by decide⟩
    · exact ⟨0, 2, fun w => rof_no2 y m d w (in3_is (by unfold inB; simp; omega)) (in3_is (by unfold inB; simp; omega)), fun ⟨_, a, b, _⟩ => absurd ⟨a, b⟩ h2, fun _ => by decide⟩
  · refine ⟨0, 2, fun w => rof_no1 y m d w (in3_is (by unfold inB; simp; omega)), ?_, fun _ => by decide⟩
    rintro ⟨a, _, _, _, _, b⟩
    exfalso
    have b1 := yd_mono (a := 2174) (b := y) (by omega) (by omega)
    have b2 : yd 2174 = 100077 := by decide
    omega

end Go.Proofs.YtnmiiimbjojcmaaGreatDoor
