/-
  Leap years and the lengths of months walked: the program's and the reference's. Condition: years up to 10000. The parts of a date walked: the program's and the reference's. No condition.
-/
import Derived.Test.YtcfgpojogomkhaaGreatDoorRows
import Derived.Test.YtcfgpojogomkhaaGreatDoorVc
import Derived.Test.YtcfgpojogomkhaaGreatDoorVa
import Derived.IntWalk
import Derived.Laws.Rows
namespace Go.Proofs.YtcfgpojogomkhaaGreatDoor
open Go.RowKit

set_option maxHeartbeats 1000000 in
set_option maxRecDepth 100000 in
theorem leap_any (y : Nat) (w : World) (hy : y ≤ 10000) : Calls Tryz.prog 113 #[.int .i64 (y : Int)] w (RetB w (leapB y)) := by
  have hb : leapB y = (((y : Int) % 4 == 0) && (((y : Int) % 100 != 0) || ((y : Int) % 400 == 0))) := by
    unfold leapB
    rw [Bool.eq_iff_iff]
    simp
    omega
  rw [hb]
  obtain ⟨b1, h1⟩ : ∃ b, ((y : Int) % 4 == 0) = b := ⟨_, rfl⟩
  obtain ⟨b2, h2⟩ : ∃ b, ((y : Int) % 100 != 0) = b := ⟨_, rfl⟩
  obtain ⟨b3, h3⟩ : ∃ b, ((y : Int) % 400 == 0) = b := ⟨_, rfl⟩
  rw [h1, h2, h3]
  clear hb
  cases b1 <;> cases b2 <;> cases b3
  all_goals
    go_enter Tryz.func113, Tryz.ntmps113
    go_wp2
    go_ret
    exact ⟨rfl, rfl⟩

set_option maxHeartbeats 1000000 in
set_option maxRecDepth 100000 in
theorem rleap_any (y : Nat) (w : World) (hy : y ≤ 10000) : Calls Tryz.prog 97 #[.int .i64 (y : Int)] w (RetB w (leapB y)) := by
  have hb : leapB y = (((y : Int) % 400 == 0) || (!((y : Int) % 100 == 0) && ((y : Int) % 4 == 0))) := by
    unfold leapB
    rw [Bool.eq_iff_iff]
    simp
    omega
  rw [hb]
  obtain ⟨b1, h1⟩ : ∃ b, ((y : Int) % 4 == 0) = b := ⟨_, rfl⟩
  obtain ⟨b2, h2⟩ : ∃ b, ((y : Int) % 100 == 0) = b := ⟨_, rfl⟩
  obtain ⟨b3, h3⟩ : ∃ b, ((y : Int) % 400 == 0) = b := ⟨_, rfl⟩
  rw [h1, h2, h3]
  clear hb
  cases b1 <;> cases b2 <;> cases b3
  all_goals
    go_enter Tryz.func97, Tryz.ntmps97
    go_wp2
    go_ret
    exact ⟨rfl, rfl⟩

theorem longN_2 (y : Nat) : longN y 2 = if leapB y = true then 29 else 28 := rfl
set_option maxHeartbeats 1000000 in
set_option maxRecDepth 100000 in
theorem long_any' (y m : Nat) (w : World) (hy : y ≤ 10000) (h1 : 1 ≤ m) (h2 : m ≤ 12) : Calls Tryz.prog 90 #[.int .i64 (y : Int), .int .i64 (m : Int)] w (RetI w (longN y m : Int)) := by
  have hm : m = 1 ∨ m = 2 ∨ m = 3 ∨ m = 4 ∨ m = 5 ∨ m = 6 ∨ m = 7 ∨ m = 8 ∨ m = 9 ∨ m = 10 ∨ m = 11 ∨ m = 12 := by omega
  rcases hm with rfl | rfl | rfl | rfl | rfl | rfl | rfl | rfl | rfl | rfl | rfl | rfl
  case inr.inl =>
    have HL := Lib.hid (fun W => rleap_any y W hy)
    rw [longN_2]
    obtain ⟨b, hb⟩ : ∃ b, b = leapB y := ⟨_, rfl⟩
    rw [← hb] at HL ⊢
    clear hb
    cases b
    · go_enter Tryz.func90, Tryz.ntmps90
      go_wp2_with fail
      refine (HL.out _).mono ?_
      rintro e w' ⟨rfl, rfl⟩
      go_wp2
      go_ret
      exact ⟨rfl, rfl⟩
    · go_enter Tryz.func90, Tryz.ntmps90
      go_wp2_with fail
      refine (HL.out _).mono ?_
      rintro e w' ⟨rfl, rfl⟩
      go_wp2
      go_ret
      exact ⟨rfl, rfl⟩
  all_goals
    go_enter Tryz.func90, Tryz.ntmps90
    go_wp2
    go_ret
    exact ⟨rfl, rfl⟩

set_option maxHeartbeats 1000000 in
set_option maxRecDepth 100000 in
theorem leaps_any (y : Nat) (w : World) (hy : y ≤ 10000) : Calls Tryz.prog 112 #[.int .i64 (y : Int)] w (RetI w (leapsN y : Int)) := by
  obtain ⟨a, ha⟩ : ∃ a, a = y / 4 := ⟨_, rfl⟩
  obtain ⟨b, hb⟩ : ∃ b, b = y / 100 := ⟨_, rfl⟩
  obtain ⟨c, hc⟩ : ∃ c, c = y / 400 := ⟨_, rfl⟩
  have ha' : (y : Int) / 4 = (a : Int) := by omega
  have hb' : (y : Int) / 100 = (b : Int) := by omega
  have hc' : (y : Int) / 400 = (c : Int) := by omega
  have hl : (leapsN y : Int) = (a : Int) - (b : Int) + (c : Int) := by unfold leapsN; omega
  have l1 : b ≤ a := by omega
  have l2 : a ≤ 10000 := by omega
  have l3 : c ≤ 10000 := by omega
  rw [hl]
  clear hl ha hb hc
  go_enter Tryz.func112, Tryz.ntmps112
  go_wp2
  go_ret
  exact ⟨rfl, rfl⟩

set_option maxHeartbeats 1000000 in
set_option maxRecDepth 100000 in
theorem first_any' (y : Nat) (w : World) (h1 : 1900 ≤ y) (hy : y ≤ 10000) : Calls Tryz.prog 78 #[.int .i64 (y : Int)] w (RetI w (yd y : Int)) := by
  obtain ⟨k, rfl⟩ : ∃ k, y = k + 1 := ⟨y - 1, by omega⟩
  have hl := leaps_ge (y := k) (by omega)
  have H1 := Lib.hid (fun W => leaps_any k W (by omega))
  have H2 := Lib.hid (fun W => leaps_any 1899 W (by omega))
  have e2 : (leapsN 1899 : Int) = 460 := by decide
  have hu : leapsN k ≤ 10000 := by unfold leapsN; omega
  obtain ⟨L, hL⟩ : ∃ L, L = leapsN k := ⟨_, rfl⟩
  have hy' : (yd (k + 1) : Int) = 365 * ((k : Int) + 1 - 1900) + (L : Int) - 460 := by unfold yd; rw [Nat.add_sub_cancel, ← hL]; omega
  rw [hy']
  rw [← hL] at H1 hl hu
  rw [e2] at H2
  have ek : ((k + 1 : Nat) : Int) = (k : Int) + 1 := by omega
  rw [ek]
  clear hy' hL e2 ek
  go_enter Tryz.func78, Tryz.ntmps78
  go_wp2_with fail
  refine (H1.out _).mono ?_
  rintro e w' ⟨rfl, rfl⟩
  go_wp2_with fail
  refine (H2.out _).mono ?_
  rintro e w' ⟨rfl, rfl⟩
  go_wp2
  go_ret
  exact ⟨rfl, rfl⟩

end Go.Proofs.YtcfgpojogomkhaaGreatDoor

namespace Go.Proofs.YtcfgpojogomkhaaGreatDoor
open Go.RowKit

def inB (n a b : Int) : Bool := decide (a ≤ n) && decide (n ≤ b)
/-- The parts of a date, and an error. -/
def PartsPost (w : World) (y m d e0 : Int) (e : Ending) (w' : World) : Prop := e = .returned (.tuple #[.int .i64 y, .int .i64 m, .int .i64 d, .int .i64 e0]) ∧ Below w.heap.size w w'

def lensV (y : Nat) : Array Value := #[.int .i64 0, .int .i64 31, .int .i64 (longN y 2 : Int), .int .i64 31, .int .i64 30, .int .i64 31, .int .i64 30, .int .i64 31, .int .i64 31, .int .i64 30, .int .i64 31, .int .i64 30, .int .i64 31]
theorem lensV_get (y m : Nat) (h1 : 1 ≤ m) (h2 : m ≤ 12) : (lensV y)[m]? = some (.int .i64 (longN y m : Int)) := by
  have hm : m = 1 ∨ m = 2 ∨ m = 3 ∨ m = 4 ∨ m = 5 ∨ m = 6 ∨ m = 7 ∨ m = 8 ∨ m = 9 ∨ m = 10 ∨ m = 11 ∨ m = 12 := by omega
  rcases hm with rfl | rfl | rfl | rfl | rfl | rfl | rfl | rfl | rfl | rfl | rfl | rfl <;> rfl

set_option maxHeartbeats 1000000 in
set_option maxRecDepth 100000 in
theorem lengths_any (y : Nat) (w : World) (hy : y ≤ 10000) : Calls Tryz.prog 79 #[.int .i64 (y : Int)] w fun e w' => e = .returned (.agg (lensV y)) ∧ Below w.heap.size w w' := by
  have HL := Lib.hid (fun W => leap_any y W hy)
  unfold lensV
  rw [longN_2]
  obtain ⟨b, hb⟩ : ∃ b, b = leapB y := ⟨_, rfl⟩
  rw [← hb] at HL ⊢
  clear hb
  cases b
  · go_enter Tryz.func79, Tryz.ntmps79
    go_wp2_with fail
    refine (HL.out _).mono ?_
    rintro e w' ⟨rfl, rfl⟩
    go_wp2
    refine bodyPost_ret (results_cell_row rfl _ _ w.heap.size 115 _ (0, 0) _ rfl (heap_two _ _ _) Tryz.underlying115 rfl rfl) rfl ?_
    exact ⟨rfl, (own_below _ _).trans ((own_below _ _).mono (by simp))⟩
  · go_enter Tryz.func79, Tryz.ntmps79
    go_wp2_with fail
    refine (HL.out _).mono ?_
    rintro e w' ⟨rfl, rfl⟩
    go_wp2
    refine bodyPost_ret (results_cell_row rfl _ _ w.heap.size 115 _ (0, 0) _ rfl (heap_two _ _ _) Tryz.underlying115 rfl rfl) rfl ?_
    exact ⟨rfl, (own_below _ _).trans ((own_below _ _).mono (by simp))⟩

theorem first_is (y : Nat) (h1 : 1900 ≤ y) (hy : y ≤ 9999) : Hid (∀ W, Calls Tryz.prog 78 #[.int .i64 ((y : Int) + 1)] W (RetI W (yd (y + 1) : Int))) := fun W => by
  have := first_any' (y + 1) W (by omega) (by omega)
  rwa [show ((y + 1 : Nat) : Int) = (y : Int) + 1 by omega] at this

/-- The year so far. -/
def YrR (day : Nat) (v : Value) : Prop := ∃ y : Nat, v = .int .i64 (y : Int) ∧ 1900 ≤ y ∧ yd y ≤ day
/-- The month and the days so far. -/
def MoR (day y : Nat) (mv dv : Value) : Prop := ∃ m d : Nat, mv = .int .i64 (m : Int) ∧ dv = .int .i64 (d : Int) ∧ MonAt day y m d

set_option maxHeartbeats 2000000 in
set_option maxRecDepth 100000 in
theorem parts_ok (day Y M D : Nat) (w : World) (hd : day ≤ 99999) (h : DateIs day Y M D) : Calls Tryz.prog 49 #[.int .i64 (day : Int)] w (PartsPost w Y M D 0) := by
  have HU := Lib.hid h
  obtain ⟨k, hk⟩ : ∃ k, k = day / 366 := ⟨_, rfl⟩
  have hkI : (day : Int) / 366 = (k : Int) := by omega
  have hst : YrR day (.int .i64 (1900 + (k : Int))) := ⟨1900 + k, by congr 1, by omega, by rw [hk]; exact prog_year_start day⟩
  have HST := Lib.hid hst
  have hk2 : k ≤ 1000 := by omega
  clear h hk hst
  go_enter Tryz.func49, Tryz.ntmps49
  go_wp2_with fail
  go_loop [2] (YrR day) (fun v => 3000 - (intOf v).toNat)
  case atStart => exact HST.out
  case round =>
    obtain ⟨y, rfl, hy, hyd⟩ := hrel
    have hy2 : y ≤ 2174 := by have := yd_ge hy; omega
    have HF := first_is y hy (by omega)
    obtain ⟨Y1, hY1⟩ : ∃ Y1, Y1 = yd (y + 1) := ⟨_, rfl⟩
    rw [← hY1] at HF
    by_cases hlt : Y1 ≤ day
    · have HN : Hid (YrR day (.int .i64 ((y : Int) + 1))) := ⟨y + 1, by congr 1, by omega, by rw [← hY1]; exact hlt⟩
      clear hY1 hyd HST
      go_wp2_with fail
      refine (HF.out _).mono ?_
      rintro e w' ⟨rfl, rfl⟩
      go_wp2_with fail
      go_round
      case rel => exact HN.out
      case measure => simp [intOf]; omega
    · have hm0 := mon_start hy hyd (by rw [← hY1]; omega)
      have HF2 := Lib.hid (fun W => first_any' y W hy (by omega))
      have hL := fun W => lengths_any y W (by omega)
      unfold lensV at hL
      have HL := Lib.hid hL
      clear hL
      obtain ⟨Y0, hY0⟩ : ∃ Y0, Y0 = yd y := ⟨_, rfl⟩
      rw [← hY0] at HF2 hm0 hyd
      have hM0 : Hid (MoR day y (.int .i64 1) (.int .i64 ((day : Int) - (Y0 : Int) + 1))) := ⟨1, day - Y0 + 1, rfl, by congr 1; omega, hm0⟩
      have hc : ∀ W : World, ∀ m : Nat, 1 ≤ m → m ≤ 12 → (W.alloc (.cells (lensV y) 115)).cell? ⟨W.heap.size, m, none⟩ = some (.int .i64 (longN y m : Int)) := fun W m a1 a2 => by
        rw [RowAt.cell (rowAt_alloc (t := 115) (c := lensV y) rfl rfl) (by show m < 13; omega)]
        simpa using lensV_get y m a1 a2
      have HC := Lib.hid hc
      clear hY1 hY0 hm0 HST hc
      go_wp2_with fail
      refine (HF.out _).mono ?_
      rintro e w' ⟨rfl, rfl⟩
      go_wp2_with fail
      refine (HF2.out _).mono ?_
      rintro e w' ⟨rfl, rfl⟩
      go_wp2_with fail
      refine (HL.out _).mono ?_
      rintro e w2 ⟨rfl, b2⟩
      have B2 := Lib.hid b2
      clear b2
      go_wp2_with fail
      go_loop [3, 4] (MoR day y) (fun _ v => (intOf v).toNat)
      case atStart => exact hM0.out
      case round =>
        obtain ⟨m, d, rfl, rfl, hm⟩ := hrel
        obtain ⟨n, hn⟩ : ∃ n, n = longN y m := ⟨_, rfl⟩
        have hc := HC.out w2 m hm.2.1 hm.2.2.1
        unfold lensV at hc
        rw [← hn] at hc
        have hm12 := hm.2.2.1
        by_cases hlt : n < d
        · obtain ⟨hs, hlt12⟩ := mon_step hm (by rw [← hn]; exact hlt)
          rw [← hn] at hs
          have hn28 : 28 ≤ n := by rw [hn]; exact longN_ge _ _
          have hd99 : d ≤ 100000 := by have := hm.2.2.2.2.1; omega
          have HS : Hid (MoR day y (.int .i64 ((m : Int) + 1)) (.int .i64 ((d : Int) - (n : Int)))) := ⟨m + 1, d - n, by congr 1, by congr 1; omega, hs⟩
          clear hn hm hs HC hM0
          go_wp2_with fail
          go_round
          case rel => exact HS.out
          case measure => simp [intOf]; omega
        · obtain ⟨e1, e2, e3⟩ := HU.out.unique (mon_end hm (by rw [← hn]; omega))
          have E1 := Lib.hid e1
          have E2 := Lib.hid e2
          have E3 := Lib.hid e3
          clear hn hm HC hM0 e1 e2 e3
          go_wp2_with fail
          refine bodyPost_ret (results_tmp4 rfl _ _ _) rfl ?_
          refine ⟨?_, (B2.out.alloc (Nat.le_trans (by simp) B2.out.size) _)⟩
          rw [E1.out, E2.out, E3.out]
          rfl

set_option maxHeartbeats 2000000 in
set_option maxRecDepth 100000 in
theorem parts_bad (n : Int) (w : World) (h : inB n 0 99999 = false) : Calls Tryz.prog 49 #[.int .i64 n] w (PartsPost w 0 0 0 2) := by
  have hn : n < 0 ∨ 99999 < n := by unfold inB at h; simp at h; omega
  clear h
  rcases hn with hn | hn
  all_goals
    go_enter Tryz.func49, Tryz.ntmps49
    go_wp2
    refine bodyPost_ret (results_tmp4 rfl _ _ _) rfl ?_
    exact ⟨rfl, Below.refl _ _⟩

set_option maxRecDepth 100000 in
theorem in3_any (n a b : Int) (w : World) : Calls Tryz.prog 83 #[.int .i64 n, .int .i64 a, .int .i64 b] w (RetB w (inB n a b)) := by
  unfold inB
  cases h1 : decide (a ≤ n) <;> cases h2 : decide (n ≤ b)
  all_goals
    go_enter Tryz.func83, Tryz.ntmps83
    go_wp2
    go_ret
    exact ⟨rfl, rfl⟩
set_option maxRecDepth 100000 in
theorem rday_any (n : Int) (w : World) : Calls Tryz.prog 57 #[.int .i64 n] w (RetB w (inB n 0 99999)) := by
  have H := Lib.hid (fun W => in3_any n 0 99999 W)
  go_enter Tryz.func57, Tryz.ntmps57
  go_wp2_with fail
  refine (H.out _).mono ?_
  rintro e w' ⟨rfl, rfl⟩
  go_wp2
  go_ret
  exact ⟨rfl, rfl⟩

theorem rday_is {n : Int} {b : Bool} (h : inB n 0 99999 = b) : Hid (∀ W, Calls Tryz.prog 57 #[.int .i64 n] W (RetB W b)) := fun W => h ▸ rday_any n W

set_option maxHeartbeats 2000000 in
set_option maxRecDepth 100000 in
theorem rparts_bad (n : Int) (w : World) (h : inB n 0 99999 = false) : Calls Tryz.prog 60 #[.int .i64 n] w (PartsPost w 0 0 0 2) := by
  have H := rday_is h
  clear h
  go_enter Tryz.func60, Tryz.ntmps60
  go_wp2_with fail
  refine (H.out _).mono ?_
  rintro e w' ⟨rfl, rfl⟩
  go_wp2
  refine bodyPost_ret (results_tmp4 rfl _ _ _) rfl ?_
  exact ⟨rfl, Below.refl _ _⟩

/-- The reference's loop: year, month, days left. -/
def RpR (day : Nat) (rv yv mv : Value) : Prop := ∃ y m r : Nat, yv = .int .i64 (y : Int) ∧ mv = .int .i64 (m : Int) ∧ rv = .int .i64 (r : Int) ∧ RefAt day y m r

theorem longR_is (y m n : Nat) (hy : y ≤ 10000) (h1 : 1 ≤ m) (h2 : m ≤ 12) (hn : n = longN y m) : Hid (∀ W, Calls Tryz.prog 90 #[.int .i64 (y : Int), .int .i64 (m : Int)] W (RetI W (n : Int))) := fun W => hn ▸ long_any' y m W hy h1 h2

set_option maxHeartbeats 2000000 in
set_option maxRecDepth 100000 in
theorem rparts_ok (day Y M D : Nat) (w : World) (hd : day ≤ 99999) (h : DateIs day Y M D) : Calls Tryz.prog 60 #[.int .i64 (day : Int)] w (PartsPost w Y M D 0) := by
  have HU := Lib.hid h
  have HD := rday_is (n := (day : Int)) (b := true) (by unfold inB; simp; omega)
  have HST : Hid (RpR day (.int .i64 (day : Int)) (.int .i64 1900) (.int .i64 1)) := ⟨1900, 1, day, rfl, rfl, rfl, ref_start day⟩
  clear h
  go_enter Tryz.func60, Tryz.ntmps60
  go_wp2_with fail
  refine (HD.out _).mono ?_
  rintro e w' ⟨rfl, rfl⟩
  go_wp2_with fail
  go_loop [0, 6, 7] (RpR day) (fun v _ _ => (intOf v).toNat)
  case atStart => exact HST.out
  case round =>
    obtain ⟨y, m, r, rfl, rfl, rfl, hr⟩ := hrel
    obtain ⟨hy2, hr2⟩ := hr.small hd
    obtain ⟨n, hn⟩ : ∃ n, n = longN y m := ⟨_, rfl⟩
    have HL := longR_is y m n (by omega) hr.2.1 hr.2.2.1 hn
    have hn28 : 28 ≤ n := by rw [hn]; exact longN_ge _ _
    have hn31 : n ≤ 31 := by rw [hn]; exact longN_le _ _
    by_cases hlt : n ≤ r
    · by_cases hm : m < 12
      · have hs := ref_month hr (by rw [← hn]; exact hlt) hm
        rw [← hn] at hs
        have HS : Hid (RpR day (.int .i64 ((r : Int) - (n : Int))) (.int .i64 (y : Int)) (.int .i64 ((m : Int) + 1))) := ⟨y, m + 1, r - n, rfl, by congr 1, by congr 1; omega, hs⟩
        clear hn hr hs HST HD
        go_wp2_with fail
        refine (HL.out _).mono ?_
        rintro e w' ⟨rfl, rfl⟩
        go_wp2_with fail
        refine (HL.out _).mono ?_
        rintro e w' ⟨rfl, rfl⟩
        go_wp2_with fail
        go_round
        case rel => exact HS.out
        case measure => simp [intOf]; omega
      · have e12 : m = 12 := by have := hr.2.2.1; omega
        subst e12
        have hs := ref_year hr (by rw [← hn]; exact hlt)
        rw [← hn] at hs
        have HS : Hid (RpR day (.int .i64 ((r : Int) - (n : Int))) (.int .i64 ((y : Int) + 1)) (.int .i64 1)) := ⟨y + 1, 1, r - n, by congr 1, rfl, by congr 1; omega, hs⟩
        clear hn hr hs HST HD
        go_wp2_with fail
        refine (HL.out _).mono ?_
        rintro e w' ⟨rfl, rfl⟩
        go_wp2_with fail
        refine (HL.out _).mono ?_
        rintro e w' ⟨rfl, rfl⟩
        go_wp2_with fail
        go_round
        case rel => exact HS.out
        case measure => simp [intOf]; omega
    · obtain ⟨e1, e2, e3⟩ := HU.out.unique (ref_end hr (by rw [← hn]; omega))
      have E1 := Lib.hid e1
      have E2 := Lib.hid e2
      have E3 := Lib.hid e3
      clear hn hr HST HD e1 e2 e3
      go_wp2_with fail
      refine (HL.out _).mono ?_
      rintro e w' ⟨rfl, rfl⟩
      go_wp2_with fail
      refine bodyPost_ret (results_tmp4 rfl _ _ _) rfl ?_
      refine ⟨?_, Below.refl _ _⟩
      rw [E1.out, E2.out, E3.out]
      rfl

end Go.Proofs.YtcfgpojogomkhaaGreatDoor
