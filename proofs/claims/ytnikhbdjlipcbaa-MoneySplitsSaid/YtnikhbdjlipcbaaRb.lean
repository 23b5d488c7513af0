/-
  The reference's Split, where its arguments are out of range: nil and the error 2.
-/
import Derived.Test.YtnikhbdjlipcbaaR
namespace Go.Proofs.Ytnikhbdjlipcbaa
open Go.RowKit

def NoSplit (w : World) (e : Ending) (w' : World) : Prop := e = .returned (.tuple #[.slice none 0 0, .int .i64 2]) ∧ w = w'

set_option maxHeartbeats 400000 in
theorem ref_split_amt (a : Option Addr) (c n : Nat) (total : Int) (w : World) (h : amtB total = false) :
    Calls Try.prog 5 #[.int .i64 total, .slice a n c] w (NoSplit w) := by
  go_enter Try.func5, Try.ntmps5
  go_wp2_with (go_at_call 12; refine (amountR_any _ _).mono ?_; rintro e w' ⟨rfl, rfl⟩)
  go_ret2
  exact ⟨rfl, rfl⟩
set_option maxHeartbeats 400000 in
theorem ref_split_len (a : Option Addr) (c n : Nat) (total : Int) (w : World) (h : amtB total = true) (hn : n < 1 ∨ 100 < n) :
    Calls Try.prog 5 #[.int .i64 total, .slice a n c] w (NoSplit w) := by
  rcases hn with hn | hn
  · have h1 : decide ((n : Int) < 1) = true := by simp; omega
    go_enter Try.func5, Try.ntmps5
    go_wp2_with (go_at_call 12; refine (amountR_any _ _).mono ?_; rintro e w' ⟨rfl, rfl⟩)
    go_ret2
    exact ⟨rfl, rfl⟩
  · have h1 : decide ((n : Int) < 1) = false := by simp; omega
    have h2 : decide ((100 : Int) < (n : Int)) = true := by simp; omega
    go_enter Try.func5, Try.ntmps5
    go_wp2_with (go_at_call 12; refine (amountR_any _ _).mono ?_; rintro e w' ⟨rfl, rfl⟩)
    go_ret2
    exact ⟨rfl, rfl⟩

set_option maxHeartbeats 400000 in
theorem ref_split_bad (b o c n : Nat) (total : Int) (ws : List Int) (w : World) (hl : ws.length = n) (ha : amtB total = true) (hn1 : 1 ≤ n) (hn2 : n ≤ 100)
    (hbad : (∃ i, i < n ∧ ¬ (0 ≤ ws[i]?.getD 0 ∧ ws[i]?.getD 0 ≤ 4000)) ∨ ((∀ i, i < n → 0 ≤ ws[i]?.getD 0 ∧ ws[i]?.getD 0 ≤ 4000) ∧ sumL ws = 0))
    (hc : Lies w b o n ws) :
    Calls Try.prog 5 #[.int .i64 total, .slice (some ⟨b, o, none⟩) n c] w (NoSplit w) := by
  have HL := Lib.hid hl
  have HC := Lib.hid hc
  have HB := Lib.hid hbad
  clear hl hc hbad
  go_enter Try.func5, Try.ntmps5
  go_wp2_with (go_at_call 12; refine (amountR_any _ _).mono ?_; rintro e w' ⟨rfl, rfl⟩)
  go_loop [6, 7] (fun s i => ∃ k : Nat, k ≤ n ∧ i = .int .i64 k ∧ s = .int .i64 (sumL (ws.take k)) ∧ 0 ≤ sumL (ws.take k) ∧ sumL (ws.take k) ≤ 4000 * (k : Int) ∧ Hid (∀ j, j < k → 0 ≤ ws[j]?.getD 0 ∧ ws[j]?.getD 0 ≤ 4000)) (fun _ i => n - (intOf i).toNat)
  case atStart => exact ⟨0, Nat.zero_le _, rfl, rfl, by simp [sumL], by simp [sumL], fun j hj => absurd hj (Nat.not_lt_zero _)⟩
  case round =>
    obtain ⟨k, hk, rfl, rfl, b1, b2, hall⟩ := hrel
    by_cases hlt : k < n
    · have g1 := HC.out k hlt
      have hs : Hid (sumL (ws.take (k + 1)) = sumL (ws.take k) + ws[k]?.getD 0) := by
        have a := HL.out
        show _ = _
        rw [take_snoc' ws k (by omega), sumL_snoc]
      by_cases x1 : 0 ≤ ws[k]?.getD 0
      · by_cases x2 : ws[k]?.getD 0 ≤ 4000
        · have hall' : Hid (∀ j, j < k + 1 → 0 ≤ ws[j]?.getD 0 ∧ ws[j]?.getD 0 ≤ 4000) := fun j hj => by
            by_cases e : j = k
            · subst e; exact ⟨x1, x2⟩
            · exact hall.out j (by omega)
          go_wp2_with fail
          go_round
          case rel => exact ⟨k + 1, by omega, by go_num, by rw [hs.out], by rw [hs.out]; omega, by rw [hs.out]; omega, hall'⟩
          case measure => simp [intOf]; omega
        · have e1 : decide (ws[k]?.getD 0 < 0) = false := by simp; omega
          have e2 : decide (4000 < ws[k]?.getD 0) = true := by simp; omega
          go_wp2_with fail
          go_ret2
          exact ⟨rfl, rfl⟩
      · have e1 : decide (ws[k]?.getD 0 < 0) = true := by simp; omega
        go_wp2_with fail
        go_ret2
        exact ⟨rfl, rfl⟩
    · have hkn : k = n := by omega
      have hz : sumL (ws.take k) = 0 := by
        rcases HB.out with ⟨i, hi, hb⟩ | ⟨_, h⟩
        · exact absurd (hall.out i (by omega)) hb
        · rw [List.take_of_length_le (by have := HL.out; omega)]; exact h
      rw [hz]
      clear hz b1 b2
      go_wp2_with fail
      go_ret2
      exact ⟨rfl, rfl⟩

end Go.Proofs.Ytnikhbdjlipcbaa
