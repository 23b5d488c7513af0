/-
  Leap years and the lengths of months walked: the program's and the reference's. Condition: years up to 10000. The parts of a date walked: the program's and the reference's. No condition. The text of a date walked: the program's and the reference's. No condition.
-/
import Derived.Test.YtdgmpgejemgbbaaGreatDoorRows
import Derived.Test.YtdgmpgejemgbbaaGreatDoorVc
import Derived.Test.YtdgmpgejemgbbaaGreatDoorVa
import Derived.IntWalk
import Derived.Laws.Rows
import Derived.Test.YtdgmpgejemgbbaaGreatDoorVf
namespace Go.Proofs.YtdgmpgejemgbbaaGreatDoor
open Go.RowKit

set_option maxHeartbeats 1000000 in
set_option maxRecDepth 100000 in
theorem leap_any (y : Nat) (w : World) (hy : y ≤ 10000) : Calls Tryz.prog 81 #[.int .i64 (y : Int)] w (RetB w (leapB y)) := by
  have hb : leapB y = (((y : Int) % 4 == 0) && (((y : Int) % 100 != 0) || ((y : Int) % 400 == 0))) := by
    unfold leapB
    rw [Bool.eq_iff_iff]
    simp
    omega
  rw [hb]
  obtain ⟨b1, h1⟩ : ∃ b, ((y : Int) % 4 == 0) = b := ⟨_, rfl⟩
  obtain ⟨b2, h2⟩ : ∃ b, ((y : Int) % 100 != 0) = b := ⟨_, rfl⟩
  obtain ⟨b3, h3⟩ : ∃ b, ((y : Int) % 400 == 0) = b := ⟨_, rfl⟩
  rw [h1, h2, h3]
  clear hb
  cases b1 <;> cases b2 <;> cases b3
  all_goals
    go_enter Tryz.func81, Tryz.ntmps81
    go_wp2
    go_ret
    exact ⟨rfl, rfl⟩

set_option maxHeartbeats 1000000 in
set_option maxRecDepth 100000 in
theorem rleap_any (y : Nat) (w : World) (hy : y ≤ 10000) : Calls Tryz.prog 86 #[.int .i64 (y : Int)] w (RetB w (leapB y)) := by
  have hb : leapB y = (((y : Int) % 400 == 0) || (!((y : Int) % 100 == 0) && ((y : Int) % 4 == 0))) := by
    unfold leapB
    rw [Bool.eq_iff_iff]
    simp
    omega
  rw [hb]
  obtain ⟨b1, h1⟩ : ∃ b, ((y : Int) % 4 == 0) = b := ⟨_, rfl⟩
  obtain ⟨b2, h2⟩ : ∃ b, ((y : Int) % 100 == 0) = b := ⟨_, rfl⟩
  obtain ⟨b3, h3⟩ : ∃ b, ((y : Int) % 400 == 0) = b := ⟨_, rfl⟩
  rw [h1, h2, h3]
  clear hb
  cases b1 <;> cases b2 <;> cases b3
  all_goals
    go_enter Tryz.func86, Tryz.ntmps86
    go_wp2
    go_ret
    exact ⟨rfl, rfl⟩

theorem longN_2 (y : Nat) : longN y 2 = if leapB y = true then 29 else 28 := rfl
set_option maxHeartbeats 1000000 in
set_option maxRecDepth 100000 in
theorem long_any' (y m : Nat) (w : World) (hy : y ≤ 10000) (h1 : 1 ≤ m) (h2 : m ≤ 12) : Calls Tryz.prog 74 #[.int .i64 (y : Int), .int .i64 (m : Int)] w (RetI w (longN y m : Int)) := by
  have hm : m = 1 ∨ m = 2 ∨ m = 3 ∨ m = 4 ∨ m = 5 ∨ m = 6 ∨ m = 7 ∨ m = 8 ∨ m = 9 ∨ m = 10 ∨ m = 11 ∨ m = 12 := by omega
  rcases hm with rfl | rfl | rfl | rfl | rfl | rfl | rfl | rfl | rfl | rfl | rfl | rfl
  case inr.inl =>
    have HL := Lib.hid (fun W => rleap_any y W hy)
    rw [longN_2]
    obtain ⟨b, hb⟩ : ∃ b, b = leapB y := ⟨_, rfl⟩
    rw [← hb] at HL ⊢
    clear hb
    cases b
    · go_enter Tryz.func74, Tryz.ntmps74
      go_wp2_with fail
      refine (HL.out _).mono ?_
      rintro e w' ⟨rfl, rfl⟩
      go_wp2
      go_ret
      exact ⟨rfl, rfl⟩
    · go_enter Tryz.func74, Tryz.ntmps74
      go_wp2_with fail
      refine (HL.out _).mono ?_
      rintro e w' ⟨rfl, rfl⟩
      go_wp2
      go_ret
      exact ⟨rfl, rfl⟩
  all_goals
    go_enter Tryz.func74, Tryz.ntmps74
    go_wp2
    go_ret
    exact ⟨rfl, rfl⟩

set_option maxHeartbeats 1000000 in
set_option maxRecDepth 100000 in
theorem leaps_any (y : Nat) (w : World) (hy : y ≤ 10000) : Calls Tryz.prog 80 #[.int .i64 (y : Int)] w (RetI w (leapsN y : Int)) := by
  obtain ⟨a, ha⟩ : ∃ a, a = y / 4 := ⟨_, rfl⟩
  obtain ⟨b, hb⟩ : ∃ b, b = y / 100 := ⟨_, rfl⟩
  obtain ⟨c, hc⟩ : ∃ c, c = y / 400 := ⟨_, rfl⟩
  have ha' : (y : Int) / 4 = (a : Int) := by omega
  have hb' : (y : Int) / 100 = (b : Int) := by omega
  have hc' : (y : Int) / 400 = (c : Int) := by omega
  have hl : (leapsN y : Int) = (a : Int) - (b : Int) + (c : Int) := by unfold leapsN; omega
  have l1 : b ≤ a := by omega
  have l2 : a ≤ 10000 := by omega
  have l3 : c ≤ 10000 := by omega
  rw [hl]
  clear hl ha hb hc
  go_enter Tryz.func80, Tryz.ntmps80
  go_wp2
  go_ret
  exact ⟨rfl, rfl⟩

set_option maxHeartbeats 1000000 in
set_option maxRecDepth 100000 in
theorem first_any' (y : Nat) (w : World) (h1 : 1900 ≤ y) (hy : y ≤ 10000) : Calls Tryz.prog 67 #[.int .i64 (y : Int)] w (RetI w (yd y : Int)) := by
  obtain ⟨k, rfl⟩ : ∃ k, y = k + 1 := ⟨y - 1, by omega⟩
  have hl := leaps_ge (y := k) (by omega)
  have H1 := Lib.hid (fun W => leaps_any k W (by omega))
  have H2 := Lib.hid (fun W => leaps_any 1899 W (by omega))
  have e2 : (leapsN 1899 : Int) = 460 := by decide
  have hu : leapsN k ≤ 10000 := by unfold leapsN; omega
  obtain ⟨L, hL⟩ : ∃ L, L = leapsN k := ⟨_, rfl⟩
  have hy' : (yd (k + 1) : Int) = 365 * ((k : Int) + 1 - 1900) + (L : Int) - 460 := by unfold yd; rw [Nat.add_sub_cancel, ← hL]; omega
  rw [hy']
  rw [← hL] at H1 hl hu
  rw [e2] at H2
  have ek : ((k + 1 : Nat) : Int) = (k : Int) + 1 := by omega
  rw [ek]
  clear hy' hL e2 ek
  go_enter Tryz.func67, Tryz.ntmps67
  go_wp2_with fail
  refine (H1.out _).mono ?_
  rintro e w' ⟨rfl, rfl⟩
  go_wp2_with fail
  refine (H2.out _).mono ?_
  rintro e w' ⟨rfl, rfl⟩
  go_wp2
  go_ret
  exact ⟨rfl, rfl⟩

end Go.Proofs.YtdgmpgejemgbbaaGreatDoor

namespace Go.Proofs.YtdgmpgejemgbbaaGreatDoor
open Go.RowKit

def inB (n a b : Int) : Bool := decide (a ≤ n) && decide (n ≤ b)
/-- The parts of a date, and an error. -/
def PartsPost (w : World) (y m d e0 : Int) (e : Ending) (w' : World) : Prop := e = .returned (.tuple #[.int .i64 y, .int .i64 m, .int .i64 d, .int .i64 e0]) ∧ Below w.heap.size w w'

def lensV (y : Nat) : Array Value := #[.int .i64 0, .int .i64 31, .int .i64 (longN y 2 : Int), .int .i64 31, .int .i64 30, .int .i64 31, .int .i64 30, .int .i64 31, .int .i64 31, .int .i64 30, .int .i64 31, .int .i64 30, .int .i64 31]
theorem lensV_get (y m : Nat) (h1 : 1 ≤ m) (h2 : m ≤ 12) : (lensV y)[m]? = some (.int .i64 (longN y m : Int)) := by
  have hm : m = 1 ∨ m = 2 ∨ m = 3 ∨ m = 4 ∨ m = 5 ∨ m = 6 ∨ m = 7 ∨ m = 8 ∨ m = 9 ∨ m = 10 ∨ m = 11 ∨ m = 12 := by omega
  rcases hm with rfl | rfl | rfl | rfl | rfl | rfl | rfl | rfl | rfl | rfl | rfl | rfl <;> rfl

set_option maxHeartbeats 1000000 in
set_option maxRecDepth 100000 in
theorem lengths_any (y : Nat) (w : World) (hy : y ≤ 10000) : Calls Tryz.prog 68 #[.int .i64 (y : Int)] w fun e w' => e = .returned (.agg (lensV y)) ∧ Below w.heap.size w w' := by
  have HL := Lib.hid (fun W => leap_any y W hy)
  unfold lensV
  rw [longN_2]
  obtain ⟨b, hb⟩ : ∃ b, b = leapB y := ⟨_, rfl⟩
  rw [← hb] at HL ⊢
  clear hb
  cases b
  · go_enter Tryz.func68, Tryz.ntmps68
    go_wp2_with fail
    refine (HL.out _).mono ?_
    rintro e w' ⟨rfl, rfl⟩
    go_wp2
    refine bodyPost_ret (results_cell_row rfl _ _ w.heap.size 109 _ (0, 0) _ rfl (heap_two _ _ _) Tryz.underlying109 rfl rfl) rfl ?_
    exact ⟨rfl, (own_below _ _).trans ((own_below _ _).mono (by simp))⟩
  · go_enter Tryz.func68, Tryz.ntmps68
    go_wp2_with fail
    refine (HL.out _).mono ?_
    rintro e w' ⟨rfl, rfl⟩
    go_wp2
    refine bodyPost_ret (results_cell_row rfl _ _ w.heap.size 109 _ (0, 0) _ rfl (heap_two _ _ _) Tryz.underlying109 rfl rfl) rfl ?_
    exact ⟨rfl, (own_below _ _).trans ((own_below _ _).mono (by simp))⟩

theorem first_is (y : Nat) (h1 : 1900 ≤ y) (hy : y ≤ 9999) : Hid (∀ W, Calls Tryz.prog 67 #[.int .i64 ((y : Int) + 1)] W (RetI W (yd (y + 1) : Int))) := fun W => by
  have := first_any' (y + 1) W (by omega) (by omega)
  rwa [show ((y + 1 : Nat) : Int) = (y : Int) + 1 by omega] at this

/-- The year so far. -/
def YrR (day : Nat) (v : Value) : Prop := ∃ y : Nat, v = .int .i64 (y : Int) ∧ 1900 ≤ y ∧ yd y ≤ day
/-- The month and the days so far. -/
def MoR (day y : Nat) (mv dv : Value) : Prop := ∃ m d : Nat, mv = .int .i64 (m : Int) ∧ dv = .int .i64 (d : Int) ∧ MonAt day y m d

set_option maxHeartbeats 2000000 in
set_option maxRecDepth 100000 in
theorem parts_ok (day Y M D : Nat) (w : World) (hd : day ≤ 99999) (h : DateIs day Y M D) : Calls Tryz.prog 52 #[.int .i64 (day : Int)] w (PartsPost w Y M D 0) := by
  have HU := Lib.hid h
  obtain ⟨k, hk⟩ : ∃ k, k = day / 366 := ⟨_, rfl⟩
  have hkI : (day : Int) / 366 = (k : Int) := by omega
  have hst : YrR day (.int .i64 (1900 + (k : Int))) := ⟨1900 + k, by congr 1, by omega, by rw [hk]; exact prog_year_start day⟩
  have HST := Lib.hid hst
  have hk2 : k ≤ 1000 := by omega
  clear h hk hst
  go_enter Tryz.func52, Tryz.ntmps52
  go_wp2_with fail
  go_loop [2] (YrR day) (fun v => 3000 - (intOf v).toNat)
  case atStart => exact HST.out
  case round =>
    obtain ⟨y, rfl, hy, hyd⟩ := hrel
    have hy2 : y ≤ 2174 := by have := yd_ge hy; omega
    have HF := first_is y hy (by omega)
    obtain ⟨Y1, hY1⟩ : ∃ Y1, Y1 = yd (y + 1) := ⟨_, rfl⟩
    rw [← hY1] at HF
    by_cases hlt : Y1 ≤ day
    · have HN : Hid (YrR day (.int .i64 ((y : Int) + 1))) := ⟨y + 1, by congr 1, by omega, by rw [← hY1]; exact hlt⟩
      clear hY1 hyd HST
      go_wp2_with fail
      refine (HF.out _).mono ?_
      rintro e w' ⟨rfl, rfl⟩
      go_wp2_with fail
      go_round
      case rel => exact HN.out
      case measure => simp [intOf]; omega
    · have hm0 := mon_start hy hyd (by rw [← hY1]; omega)
      have HF2 := Lib.hid (fun W => first_any' y W hy (by omega))
      have hL := fun W => lengths_any y W (by omega)
      unfold lensV at hL
      have HL := Lib.hid hL
      clear hL
      obtain ⟨Y0, hY0⟩ : ∃ Y0, Y0 = yd y := ⟨_, rfl⟩
      rw [← hY0] at HF2 hm0 hyd
      have hM0 : Hid (MoR day y (.int .i64 1) (.int .i64 ((day : Int) - (Y0 : Int) + 1))) := ⟨1, day - Y0 + 1, rfl, by congr 1; omega, hm0⟩
      have hc : ∀ W : World, ∀ m : Nat, 1 ≤ m → m ≤ 12 → (W.alloc (.cells (lensV y) 109)).cell? ⟨W.heap.size, m, none⟩ = some (.int .i64 (longN y m : Int)) := fun W m a1 a2 => by
        rw [RowAt.cell (rowAt_alloc (t := 109) (c := lensV y) rfl rfl) (by show m < 13; omega)]
        simpa using lensV_get y m a1 a2
      have HC := Lib.hid hc
      clear hY1 hY0 hm0 HST hc
      go_wp2_with fail
      refine (HF.out _).mono ?_
      rintro e w' ⟨rfl, rfl⟩
      go_wp2_with fail
      refine (HF2.out _).mono ?_
      rintro e w' ⟨rfl, rfl⟩
      go_wp2_with fail
      refine (HL.out _).mono ?_
      rintro e w2 ⟨rfl, b2⟩
      have B2 := Lib.hid b2
      clear b2
      go_wp2_with fail
      go_loop [3, 4] (MoR day y) (fun _ v => (intOf v).toNat)
      case atStart => exact hM0.out
      case round =>
        obtain ⟨m, d, rfl, rfl, hm⟩ := hrel
        obtain ⟨n, hn⟩ : ∃ n, n = longN y m := ⟨_, rfl⟩
        have hc := HC.out w2 m hm.2.1 hm.2.2.1
        unfold lensV at hc
        rw [← hn] at hc
        have hm12 := hm.2.2.1
        by_cases hlt : n < d
        · obtain ⟨hs, hlt12⟩ := mon_step hm (by rw [← hn]; exact hlt)
          rw [← hn] at hs
          have hn28 : 28 ≤ n := by rw [hn]; exact longN_ge _ _
          have hd99 : d ≤ 100000 := by have := hm.2.2.2.2.1; omega
          have HS : Hid (MoR day y (.int .i64 ((m : Int) + 1)) (.int .i64 ((d : Int) - (n : Int)))) := ⟨m + 1, d - n, by congr 1, by congr 1; omega, hs⟩
          clear hn hm hs HC hM0
          go_wp2_with fail
          go_round
          case rel => exact HS.out
          case measure => simp [intOf]; omega
        · obtain ⟨e1, e2, e3⟩ := HU.out.unique (mon_end hm (by rw [← hn]; omega))
          have E1 := Lib.hid e1
          have E2 := Lib.hid e2
          have E3 := Lib.hid e3
          clear hn hm HC hM0 e1 e2 e3
          go_wp2_with fail
          refine bodyPost_ret (results_tmp4 rfl _ _ _) rfl ?_
          refine ⟨?_, (B2.out.alloc (Nat.le_trans (by simp) B2.out.size) _)⟩
          rw [E1.out, E2.out, E3.out]
          rfl

set_option maxHeartbeats 2000000 in
set_option maxRecDepth 100000 in
theorem parts_bad (n : Int) (w : World) (h : inB n 0 99999 = false) : Calls Tryz.prog 52 #[.int .i64 n] w (PartsPost w 0 0 0 2) := by
  have hn : n < 0 ∨ 99999 < n := by unfold inB at h; simp at h; omega
  clear h
  rcases hn with hn | hn
  all_goals
    go_enter Tryz.func52, Tryz.ntmps52
    go_wp2
    refine bodyPost_ret (results_tmp4 rfl _ _ _) rfl ?_
    exact ⟨rfl, Below.refl _ _⟩

set_option maxRecDepth 100000 in
theorem in3_any (n a b : Int) (w : World) : Calls Tryz.prog 85 #[.int .i64 n, .int .i64 a, .int .i64 b] w (RetB w (inB n a b)) := by
  unfold inB
  cases h1 : decide (a ≤ n) <;> cases h2 : decide (n ≤ b)
  all_goals
    go_enter Tryz.func85, Tryz.ntmps85
    go_wp2
    go_ret
    exact ⟨rfl, rfl⟩
set_option maxRecDepth 100000 in
theorem rday_any (n : Int) (w : World) : Calls Tryz.prog 73 #[.int .i64 n] w (RetB w (inB n 0 99999)) := by
  have H := Lib.hid (fun W => in3_any n 0 99999 W)
  go_enter Tryz.func73, Tryz.ntmps73
  go_wp2_with fail
  refine (H.out _).mono ?_
  rintro e w' ⟨rfl, rfl⟩
  go_wp2
  go_ret
  exact ⟨rfl, rfl⟩

theorem rday_is {n : Int} {b : Bool} (h : inB n 0 99999 = b) : Hid (∀ W, Calls Tryz.prog 73 #[.int .i64 n] W (RetB W b)) := fun W => h ▸ rday_any n W

set_option maxHeartbeats 2000000 in
set_option maxRecDepth 100000 in
theorem rparts_bad (n : Int) (w : World) (h : inB n 0 99999 = false) : Calls Tryz.prog 58 #[.int .i64 n] w (PartsPost w 0 0 0 2) := by
  have H := rday_is h
  clear h
  go_enter Tryz.func58, Tryz.ntmps58
  go_wp2_with fail
  refine (H.out _).mono ?_
  rintro e w' ⟨rfl, rfl⟩
  go_wp2
  refine bodyPost_ret (results_tmp4 rfl _ _ _) rfl ?_
  exact ⟨rfl, Below.refl _ _⟩

/-- The reference's loop: year, month, days left. -/
def RpR (day : Nat) (rv yv mv : Value) : Prop := ∃ y m r : Nat, yv = .int .i64 (y : Int) ∧ mv = .int .i64 (m : Int) ∧ rv = .int .i64 (r : Int) ∧ RefAt day y m r

theorem longR_is (y m n : Nat) (hy : y ≤ 10000) (h1 : 1 ≤ m) (h2 : m ≤ 12) (hn : n = longN y m) : Hid (∀ W, Calls Tryz.prog 74 #[.int .i64 (y : Int), .int .i64 (m : Int)] W (RetI W (n : Int))) := fun W => hn ▸ long_any' y m W hy h1 h2

set_option maxHeartbeats 2000000 in
set_option maxRecDepth 100000 in
theorem rparts_ok (day Y M D : Nat) (w : World) (hd : day ≤ 99999) (h : DateIs day Y M D) : Calls Tryz.prog 58 #[.int .i64 (day : Int)] w (PartsPost w Y M D 0) := by
  have HU := Lib.hid h
  have HD := rday_is (n := (day : Int)) (b := true) (by unfold inB; simp; omega)
  have HST : Hid (RpR day (.int .i64 (day : Int)) (.int .i64 1900) (.int .i64 1)) := ⟨1900, 1, day, rfl, rfl, rfl, ref_start day⟩
  clear h
  go_enter Tryz.func58, Tryz.ntmps58
  go_wp2_with fail
  refine (HD.out _).mono ?_
  rintro e w' ⟨rfl, rfl⟩
  go_wp2_with fail
  go_loop [0, 6, 7] (RpR day) (fun v _ _ => (intOf v).toNat)
  case atStart => exact HST.out
  case round =>
    obtain ⟨y, m, r, rfl, rfl, rfl, hr⟩ := hrel
    obtain ⟨hy2, hr2⟩ := hr.small hd
    obtain ⟨n, hn⟩ : ∃ n, n = longN y m := ⟨_, rfl⟩
    have HL := longR_is y m n (by omega) hr.2.1 hr.2.2.1 hn
    have hn28 : 28 ≤ n := by rw [hn]; exact longN_ge _ _
    have hn31 : n ≤ 31 := by rw [hn]; exact longN_le _ _
    by_cases hlt : n ≤ r
    · by_cases hm : m < 12
      · have hs := ref_month hr (by rw [← hn]; exact hlt) hm
        rw [← hn] at hs
        have HS : Hid (RpR day (.int .i64 ((r : Int) - (n : Int))) (.int .i64 (y : Int)) (.int .i64 ((m : Int) + 1))) := ⟨y, m + 1, r - n, rfl, by congr 1, by congr 1; omega, hs⟩
        clear hn hr hs HST HD
        go_wp2_with fail
        refine (HL.out _).mono ?_
        rintro e w' ⟨rfl, rfl⟩
        go_wp2_with fail
        refine (HL.out _).mono ?_
        rintro e w' ⟨rfl, rfl⟩
        go_wp2_with fail
        go_round
        case rel => exact HS.out
        case measure => simp [intOf]; omega
      · have e12 : m = 12 := by have := hr.2.2.1; omega
        subst e12
        have hs := ref_year hr (by rw [← hn]; exact hlt)
        rw [← hn] at hs
        have HS : Hid (RpR day (.int .i64 ((r : Int) - (n : Int))) (.int .i64 ((y : Int) + 1)) (.int .i64 1)) := ⟨y + 1, 1, r - n, by congr 1, rfl, by congr 1; omega, hs⟩
        clear hn hr hs HST HD
        go_wp2_with fail
        refine (HL.out _).mono ?_
        rintro e w' ⟨rfl, rfl⟩
        go_wp2_with fail
        refine (HL.out _).mono ?_
        rintro e w' ⟨rfl, rfl⟩
        go_wp2_with fail
        go_round
        case rel => exact HS.out
        case measure => simp [intOf]; omega
    · obtain ⟨e1, e2, e3⟩ := HU.out.unique (ref_end hr (by rw [← hn]; omega))
      have E1 := Lib.hid e1
      have E2 := Lib.hid e2
      have E3 := Lib.hid e3
      clear hn hr HST HD e1 e2 e3
      go_wp2_with fail
      refine (HL.out _).mono ?_
      rintro e w' ⟨rfl, rfl⟩
      go_wp2_with fail
      refine bodyPost_ret (results_tmp4 rfl _ _ _) rfl ?_
      refine ⟨?_, Below.refl _ _⟩
      rw [E1.out, E2.out, E3.out]
      rfl

end Go.Proofs.YtdgmpgejemgbbaaGreatDoor

namespace Go.Proofs.YtdgmpgejemgbbaaGreatDoor
open Go.RowKit

theorem dig_val {d : Nat} (h : d < 10) : Value.int .u8 ((48 : Int) + (d : Int)) = .int .u8 ((UInt8.ofNat (48 + d)).toNat : Int) := by
  congr 1
  rw [UInt8.toNat_ofNat']; omega

/-- What digits hands back. -/
def DigsPost (B : Nat) (w : World) (l : List UInt8) (e : Ending) (w' : World) : Prop := ∃ v', e = .returned v' ∧ w'.ownsRow B 5 1 v' l.length (bytesV l) ∧ Below B w w'

set_option maxHeartbeats 2000000 in
set_option maxRecDepth 100000 in
theorem digits_many (k : Nat) : ∀ (B : Nat) (v : Value) (l : List UInt8) (n : Nat) (many : Int) (w : World), n ≤ 100000 → k ≤ 10 → l.length ≤ 1000 → B ≤ w.heap.size → many = (k : Int) + 1 → w.ownsRow B 5 1 v l.length (bytesV l) →
    Calls Tryz.prog 53 #[v, .int .i64 (n : Int), .int .i64 many] w (DigsPost B w (l ++ figB n (k + 1))) := by
  obtain ⟨i0, hi, hz0, hz1, hz2⟩ := info_parts infoU8
  induction k with
  | zero =>
    intro B v l n many w hn hk hl hB hm ho
    obtain ⟨d, hd⟩ : ∃ d, d = n % 10 := ⟨_, rfl⟩
    have hdI : (n : Int) % 10 = (d : Int) := by omega
    have hdb : d < 10 := by omega
    have HF : Hid (l ++ figB n (0 + 1) = l ++ [UInt8.ofNat (48 + d)]) := by rw [hd]; rfl
    have HO := Lib.hid ho
    obtain ⟨m, hm'⟩ : ∃ m, m = l.length := ⟨_, rfl⟩
    have HO' := HO.out
    rw [← hm'] at HO' hl
    have HO2 := Lib.hid HO'
    have HM := Lib.hid hm'
    subst hm
    clear ho HO HO' hd hm'
    rw [HF.out]
    go_enter Tryz.func53, Tryz.ntmps53
    go_wp2_with (at_builtin; refine wpList_append1 _ rfl (.tmp 15) (.tmp 20) 43 rfl B 5 i0 (.int .u8 0) 1 Tryz.underlying43 hi hz0 hz1 hz2 rfl _ _ _ rfl (HO2.out.alloc _) ⟨w.heap.size, 0, none⟩ 1 (.int .u8 ((48 : Int) + (d : Int))) rfl ?c1 rfl ?c3 ?c4 ?c5 ?_)
    case c1 => simp
    case c3 => unfold maxLen; omega
    case c4 => omega
    case c5 => simp; omega
    intro v3 w3 ho3 hg3 hne3 hpl3
    have n3 : Below B w w3 := ((Below.refl B w).alloc hB _).grown hg3 (by simp; omega) (fun k hk => (HO2.out.lt k hk).1)
    rw [dig_val hdb, bytesV_snoc] at ho3
    have HO3 := Lib.hid ho3
    have N3 := Lib.hid n3
    clear ho3 hg3 hne3 hpl3 n3
    go_wp2_with fail
    go_ret
    exact ⟨_, rfl, by rw [List.length_append, ← HM.out]; exact HO3.out, N3.out⟩
  | succ k ih =>
    intro B v l n many w hn hk hl hB hm ho
    obtain ⟨d, hd⟩ : ∃ d, d = n % 10 := ⟨_, rfl⟩
    obtain ⟨q, hq⟩ : ∃ q, q = n / 10 := ⟨_, rfl⟩
    have hdI : (n : Int) % 10 = (d : Int) := by omega
    have hqI : (n : Int) / 10 = (q : Int) := by omega
    have hdb : d < 10 := by omega
    have HF : Hid (l ++ figB n (k + 1 + 1) = (l ++ figB q (k + 1)) ++ [UInt8.ofNat (48 + d)]) := by rw [hd, hq]; show l ++ (figB (n / 10) (k + 1) ++ _) = _; rw [List.append_assoc]
    have HI := Lib.hid (ih B v l q (many - 1) w (by omega) (by omega) hl hB (by omega) ho)
    obtain ⟨m, hm'⟩ : ∃ m, m = (l ++ figB q (k + 1)).length := ⟨_, rfl⟩
    have hml : m = l.length + (k + 1) := by rw [hm', List.length_append, figB_len]
    have t1 : decide ((1 : Int) < many) = true := by simp; omega
    have hmb : 1 ≤ many ∧ many ≤ 100 := by omega
    have HM := Lib.hid hm'
    clear ho hd hq hm hm' ih
    rw [HF.out]
    go_enter Tryz.func53, Tryz.ntmps53
    go_wp2_with fail
    refine HI.out.mono ?_
    rintro e w1 ⟨v1, rfl, ho1, b1⟩
    rw [← HM.out] at ho1
    have HO1 := Lib.hid ho1
    have B1 := Lib.hid b1
    clear ho1 b1 HI
    go_wp2_with (at_builtin; refine wpList_append1 _ rfl (.tmp 15) (.tmp 20) 43 rfl B 5 i0 (.int .u8 0) 1 Tryz.underlying43 hi hz0 hz1 hz2 rfl _ _ _ rfl (HO1.out.alloc _) ⟨w1.heap.size, 0, none⟩ 1 (.int .u8 ((48 : Int) + (d : Int))) rfl ?c1 rfl ?c3 ?c4 ?c5 ?_)
    case c1 => simp
    case c3 => unfold maxLen; omega
    case c4 => omega
    case c5 => have := B1.out.size; simp; omega
    intro v3 w3 ho3 hg3 hne3 hpl3
    have n3 : Below B w w3 := (B1.out.alloc (Nat.le_trans hB B1.out.size) _).grown hg3 (by have := B1.out.size; simp; omega) (fun k hk => (HO1.out.lt k hk).1)
    rw [dig_val hdb, bytesV_snoc] at ho3
    have HO3 := Lib.hid ho3
    have N3 := Lib.hid n3
    clear ho3 hg3 hne3 hpl3 n3
    go_wp2_with fail
    go_ret
    exact ⟨_, rfl, by rw [List.length_append, ← HM.out, hml]; exact HO3.out, N3.out⟩

/-- A text and an error. -/
theorem dtext_len (Y M D : Nat) : ([] ++ figB Y 4 ++ [45] ++ figB M 2 ++ [45] ++ figB D 2 : List UInt8) = dateB Y M D := by simp [dateB]

set_option maxHeartbeats 2000000 in
set_option maxRecDepth 100000 in
theorem dtext_ok (day Y M D : Nat) (w : World) (hd : day ≤ 99999) (h : DateIs day Y M D) : Calls Tryz.prog 42 #[.int .i64 (day : Int)] w (SEPost w (dateB Y M D) 0) := by
  obtain ⟨i0, hi, hz0, hz1, hz2⟩ := info_parts infoU8
  have HP := Lib.hid (fun W => parts_ok day Y M D W hd h)
  obtain ⟨hY, hD⟩ := h.small hd
  have hM : M ≤ 12 := h.2.2.1
  obtain ⟨L1, hL1⟩ : ∃ L1, L1 = [] ++ figB Y 4 := ⟨_, rfl⟩
  obtain ⟨L2, hL2⟩ : ∃ L2, L2 = L1 ++ [45] := ⟨_, rfl⟩
  obtain ⟨L3, hL3⟩ : ∃ L3, L3 = L2 ++ figB M 2 := ⟨_, rfl⟩
  obtain ⟨L4, hL4⟩ : ∃ L4, L4 = L3 ++ [45] := ⟨_, rfl⟩
  obtain ⟨L5, hL5⟩ : ∃ L5, L5 = L4 ++ figB D 2 := ⟨_, rfl⟩
  have l1 : L1.length = 4 := by rw [hL1, List.nil_append, figB_len]
  have l2 : L2.length = 5 := by rw [hL2, List.length_append, l1]; rfl
  have l3 : L3.length = 7 := by rw [hL3, List.length_append, l2, figB_len]
  have l4 : L4.length = 8 := by rw [hL4, List.length_append, l3]; rfl
  have HL : Hid (dateB Y M D = L5) := by show _ = _; rw [hL5, hL4, hL3, hL2, hL1]; exact (dtext_len Y M D).symm
  have HB1 : Hid (bytesV L1 ++ [.int .u8 45] = bytesV L2) := by rw [hL2, ← bytesV_snoc]; rfl
  have HB2 : Hid (bytesV L3 ++ [.int .u8 45] = bytesV L4) := by rw [hL4, ← bytesV_snoc]; rfl
  have H1 : Hid (∀ W : World, w.heap.size ≤ W.heap.size → Calls Tryz.prog 53 #[.slice none 0 0, .int .i64 (Y : Int), .int .i64 4] W (DigsPost w.heap.size W L1)) := fun W hW => by
    rw [hL1]; exact digits_many 3 w.heap.size (.slice none 0 0) [] Y 4 W (by omega) (by omega) (by simp) hW rfl (World.ownsRow_nil _ _ _ _)
  have H2 : Hid (∀ (W : World) (v : Value), w.heap.size ≤ W.heap.size → W.ownsRow w.heap.size 5 1 v 5 (bytesV L2) → Calls Tryz.prog 53 #[v, .int .i64 (M : Int), .int .i64 2] W (DigsPost w.heap.size W L3)) := fun W v hW ho => by
    rw [hL3]; exact digits_many 1 w.heap.size v L2 M 2 W (by omega) (by omega) (by omega) hW rfl (by rw [l2]; exact ho)
  have H3 : Hid (∀ (W : World) (v : Value), w.heap.size ≤ W.heap.size → W.ownsRow w.heap.size 5 1 v 8 (bytesV L4) → Calls Tryz.prog 53 #[v, .int .i64 (D : Int), .int .i64 2] W (DigsPost w.heap.size W L5)) := fun W v hW ho => by
    rw [hL5]; exact digits_many 1 w.heap.size v L4 D 2 W (by omega) (by omega) (by omega) hW rfl (by rw [l4]; exact ho)
  rw [HL.out]
  clear h hL1 hL2 hL3 hL4 hL5
  go_enter Tryz.func42, Tryz.ntmps42
  go_wp2_with fail
  refine (HP.out _).mono ?_
  rintro e w1 ⟨rfl, b1⟩
  have B1 := Lib.hid b1
  clear b1
  go_wp2_with fail
  refine (H1.out _ B1.out.size).mono ?_
  rintro e w2 ⟨v2, rfl, ho2, b2⟩
  rw [l1] at ho2
  have O2 := Lib.hid ho2
  have B2 := Lib.hid (B1.out.trans b2)
  clear ho2 b2 B1
  go_wp2_with (at_builtin; refine wpList_append1 _ rfl (.tmp 20) (.tmp 21) 43 rfl w.heap.size 5 i0 (.int .u8 0) 1 Tryz.underlying43 hi hz0 hz1 hz2 rfl _ _ _ rfl (O2.out.alloc _) ⟨w2.heap.size, 0, none⟩ 1 (.int .u8 45) rfl ?c1 rfl ?c3 ?c4 ?c5 ?_)
  case c1 => simp
  case c3 => unfold maxLen; omega
  case c4 => omega
  case c5 => have := B2.out.size; simp; omega
  intro v3 w3 ho3 hg3 hne3 hpl3
  have n3 : Below w.heap.size w w3 := (B2.out.alloc B2.out.size _).grown hg3 (by have := B2.out.size; simp; omega) (fun k hk => (O2.out.lt k hk).1)
  rw [HB1.out] at ho3
  have O3 := Lib.hid ho3
  have B3 := Lib.hid n3
  clear ho3 hg3 hne3 hpl3 n3 O2 B2
  go_wp2_with fail
  refine (H2.out _ _ B3.out.size O3.out).mono ?_
  rintro e w4 ⟨v4, rfl, ho4, b4⟩
  rw [l3] at ho4
  have O4 := Lib.hid ho4
  have B4 := Lib.hid (B3.out.trans b4)
  clear ho4 b4 B3 O3
  go_wp2_with (at_builtin; refine wpList_append1 _ rfl (.tmp 25) (.tmp 26) 43 rfl w.heap.size 5 i0 (.int .u8 0) 1 Tryz.underlying43 hi hz0 hz1 hz2 rfl _ _ _ rfl (O4.out.alloc _) ⟨w4.heap.size, 0, none⟩ 1 (.int .u8 45) rfl ?c1 rfl ?c3 ?c4 ?c5 ?_)
  case c1 => simp
  case c3 => unfold maxLen; omega
  case c4 => omega
  case c5 => have := B4.out.size; simp; omega
  intro v5 w5 ho5 hg5 hne5 hpl5
  have n5 : Below w.heap.size w w5 := (B4.out.alloc B4.out.size _).grown hg5 (by have := B4.out.size; simp; omega) (fun k hk => (O4.out.lt k hk).1)
  rw [HB2.out] at ho5
  have O5 := Lib.hid ho5
  have B5 := Lib.hid n5
  clear ho5 hg5 hne5 hpl5 n5 O4 B4
  go_wp2_with fail
  refine (H3.out _ _ B5.out.size O5.out).mono ?_
  rintro e w6 ⟨v6, rfl, ho6, b6⟩
  have hcv := conv_own ho6 9 Tryz.underlying9
  have B6 := Lib.hid (B5.out.trans b6)
  clear ho6 b6 B5 O5
  go_wp2_with fail
  go_ret2
  exact ⟨rfl, B6.out⟩

theorem dtext_bad (n : Int) (w : World) (h : inB n 0 99999 = false) : Calls Tryz.prog 42 #[.int .i64 n] w (SEPost w [] 2) := by
  have HP := Lib.hid (fun W => parts_bad n W h)
  clear h
  go_enter Tryz.func42, Tryz.ntmps42
  go_wp2_with fail
  refine (HP.out _).mono ?_
  rintro e w1 ⟨rfl, b1⟩
  have B1 := Lib.hid b1
  clear b1
  go_wp2_with fail
  go_ret2
  exact ⟨rfl, B1.out⟩

/-- The reference's loop over the digits. -/
def FigR (w : World) (n many : Nat) (nv sv iv : Value) (wr : World) : Prop :=
  ∃ (i m : Nat) (s : ByteArray), nv = .int .i64 (m : Int) ∧ sv = .string s ∧ iv = .int .i64 (i : Int) ∧ m ≤ n ∧ s.size = i ∧ FigAt n many s.data.toList i m ∧ Below w.heap.size w wr

set_option maxHeartbeats 2000000 in
set_option maxRecDepth 100000 in
theorem figures_any (n many : Nat) (w : World) (hn : n ≤ 100000) (hm : many ≤ 10) : Calls Tryz.prog 59 #[.int .i64 (n : Int), .int .i64 (many : Int)] w (StrPost w (figB n many)) := by
  have HST : Hid (FigR w n many (.int .i64 (n : Int)) (.string ⟨#[]⟩) (.int .i64 0) w) := ⟨0, n, ⟨#[]⟩, rfl, rfl, rfl, Nat.le_refl _, rfl, fig_start n many, Below.refl _ _⟩
  go_enter Tryz.func59, Tryz.ntmps59
  go_wp2_with fail
  go_loopw [0, 5, 6] (FigR w n many) (fun _ _ i _ => many - (intOf i).toNat)
  case atStart => exact HST.out
  case round =>
    obtain ⟨w1, rfl⟩ : ∃ w1 : World, w1 = wr := ⟨_, rfl⟩
    obtain ⟨i, m, s, rfl, rfl, rfl, hmn, hsz, hat, hb⟩ := hrel
    have HB := Lib.hid hb
    have him := hat.1
    have hs10 : s.size ≤ 10 := by omega
    have HSZ := Lib.hid hsz
    clear hsz
    by_cases hlt : i < many
    · have hs := fig_step hat hlt
      obtain ⟨d, hd⟩ : ∃ d, d = m % 10 := ⟨_, rfl⟩
      obtain ⟨q, hq⟩ : ∃ q, q = m / 10 := ⟨_, rfl⟩
      have hdI : (m : Int) % 10 = (d : Int) := by omega
      have hqI : (m : Int) / 10 = (q : Int) := by omega
      have hdb : d < 10 := by omega
      have hqm : q ≤ m := by omega
      rw [← hd, ← hq] at hs
      obtain ⟨c, hc⟩ : ∃ c, c = UInt8.ofNat (48 + d) := ⟨_, rfl⟩
      have hcI : (48 : Int) + (d : Int) = (c.toNat : Int) := by rw [hc, UInt8.toNat_ofNat']; omega
      rw [← hc] at hs
      have HS := Lib.hid hs
      have hcv : ∀ W : World, (convert 43 9 (.slice (some ⟨W.heap.size, 0, none⟩) 1 1)).run Tryz.prog (W.alloc (.cells #[.int .u8 (c.toNat : Int)] 5)) = .ok (.string ⟨[c].toArray⟩) (W.alloc (.cells #[.int .u8 (c.toNat : Int)] 5)) := fun W =>
        run_convert_bytes_back (P := Tryz.prog) _ 43 9 5 ⟨W.heap.size, 0, none⟩ 1 [c] Tryz.underlying43 Tryz.underlying5 Tryz.underlying9 (fun j hj => by
          have : j = 0 := by simpa using hj
          subst this
          simp [go_sem])
      clear hd hq hs hc HST hat hb
      go_wp2_with fail
      go_roundw
      case rel => exact ⟨i + 1, q, _, rfl, rfl, by go_num, by omega, by rw [ByteArray.size_append]; show 1 + s.size = i + 1; rw [HSZ.out]; omega, by simpa using HS.out, (HB.out.alloc HB.out.size _)⟩
      case measure => simp [intOf]; omega
    · obtain rfl : i = many := by omega
      have e := Lib.hid (fig_end hat)
      clear hat hb HST
      go_wp2_with fail
      go_ret
      exact ⟨by rw [← e.out]; show Ending.returned (.string s) = _; congr 2, HB.out⟩

theorem fig_is (n many : Nat) (M : Int) (hM : M = (many : Int)) (hn : n ≤ 100000) (hm : many ≤ 10) : Hid (∀ W, Calls Tryz.prog 59 #[.int .i64 (n : Int), .int .i64 M] W (StrPost W (figB n many))) := fun W => by
  subst hM; exact figures_any n many W hn hm

set_option maxHeartbeats 2000000 in
set_option maxRecDepth 100000 in
theorem rdtext_ok (day Y M D : Nat) (w : World) (hd : day ≤ 99999) (h : DateIs day Y M D) : Calls Tryz.prog 45 #[.int .i64 (day : Int)] w (SEPost w (dateB Y M D) 0) := by
  have HP := Lib.hid (fun W => rparts_ok day Y M D W hd h)
  obtain ⟨hY, hD⟩ := h.small hd
  have hM : M ≤ 12 := h.2.2.1
  have H1 := fig_is Y 4 4 rfl (by omega) (by omega)
  have H2 := fig_is M 2 2 rfl (by omega) (by omega)
  have H3 := fig_is D 2 2 rfl (by omega) (by omega)
  have HL : Hid (∀ x1 x2 x3 : List UInt8, x1 = figB Y 4 → x2 = figB M 2 → x3 = figB D 2 → x1 ++ [45] ++ x2 ++ [45] ++ x3 = dateB Y M D) := fun x1 x2 x3 e1 e2 e3 => by rw [e1, e2, e3]; rfl
  clear h
  go_enter Tryz.func45, Tryz.ntmps45
  go_wp2_with fail
  refine (HP.out _).mono ?_
  rintro e w1 ⟨rfl, b1⟩
  have B1 := Lib.hid b1
  clear b1
  go_wp2_with fail
  refine (H1.out _).mono ?_
  rintro e w2 ⟨rfl, b2⟩
  have B2 := Lib.hid (B1.out.trans (b2.mono B1.out.size))
  clear b2 B1
  go_wp2_with fail
  refine (H2.out _).mono ?_
  rintro e w3 ⟨rfl, b3⟩
  have B3 := Lib.hid (B2.out.trans (b3.mono B2.out.size))
  clear b3 B2
  go_wp2_with fail
  refine (H3.out _).mono ?_
  rintro e w4 ⟨rfl, b4⟩
  have B4 := Lib.hid (B3.out.trans (b4.mono B3.out.size))
  clear b4 B3
  go_wp2_with fail
  go_ret2
  have e : ((⟨(figB Y 4).toArray⟩ : ByteArray) ++ ⟨#[45]⟩ ++ ⟨(figB M 2).toArray⟩ ++ ⟨#[45]⟩ ++ ⟨(figB D 2).toArray⟩) = ⟨(dateB Y M D).toArray⟩ := by
    rw [← HL.out _ _ _ rfl rfl rfl]
    apply ByteArray.ext
    simp
  exact ⟨by rw [← e]; rfl, B4.out⟩

theorem rdtext_bad (n : Int) (w : World) (h : inB n 0 99999 = false) : Calls Tryz.prog 45 #[.int .i64 n] w (SEPost w [] 2) := by
  have HP := Lib.hid (fun W => rparts_bad n W h)
  clear h
  go_enter Tryz.func45, Tryz.ntmps45
  go_wp2_with fail
  refine (HP.out _).mono ?_
  rintro e w1 ⟨rfl, b1⟩
  have B1 := Lib.hid b1
  clear b1
  go_wp2_with fail
  go_ret2
  exact ⟨rfl, B1.out⟩

end Go.Proofs.YtdgmpgejemgbbaaGreatDoor
