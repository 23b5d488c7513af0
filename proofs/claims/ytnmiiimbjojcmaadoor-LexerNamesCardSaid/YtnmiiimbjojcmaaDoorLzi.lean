/-
  The reference's Blank and Skip walked. No condition.
-/
import Derived.Test.YtnmiiimbjojcmaaDoorXg
import Derived.Test.YtnmiiimbjojcmaaDoorVa
namespace Go.Proofs.YtnmiiimbjojcmaaDoor
open Go.RowKit Go.Shelf

theorem blank_any (c : UInt8) (w : World) : Calls Tryd.prog 31 #[.int .u8 (c.toNat : Int)] w (RetB w (blQ c)) := by
  by_cases h : c.toNat = 32 ∨ c.toNat = 9 ∨ c.toNat = 10
  · have hv : blQ c = true := by unfold blQ; simpa using h
    rw [hv]
    rcases h with h | h | h
    all_goals
      rw [h]
      go_enter Tryd.func31, Tryd.ntmps31
      go_wp2
      go_ret
      exact ⟨rfl, rfl⟩
  · have hv : blQ c = false := by unfold blQ; simpa using h
    rw [hv]
    have e32 : ((c.toNat : Int) == 32) = false := by simp <;> omega
    have e9 : ((c.toNat : Int) == 9) = false := by simp <;> omega
    have e10 : ((c.toNat : Int) == 10) = false := by simp <;> omega
    clear h hv
    go_enter Tryd.func31, Tryd.ntmps31
    go_wp2
    go_ret
    exact ⟨rfl, rfl⟩
theorem drop_at (s : ByteArray) (k : Nat) (h : k < s.size) : s.data.toList.drop k = s[k] :: s.data.toList.drop (k + 1) := by
  rw [List.drop_eq_getElem_cons (by rw [data_len]; exact h)]; rfl
/-- The loops of Skip: outside a remark, or in one. -/
def SkR (s : ByteArray) (F k0 : Nat) (b : Bool) (v : Value) : Prop := ∃ k : Nat, k ≤ s.size ∧ k0 ≤ k ∧ v = .int .i64 (k : Int) ∧ k + skS b (s.data.toList.drop k) = F
def Eq10 (c : UInt8) (b : Bool) : Prop := ((c.toNat : Int) == 10) = b ∧ ((c.toNat : Int) != 10) = !b
theorem eq10_is {c : UInt8} (h : c.toNat = 10) : Eq10 c true := by constructor <;> simp [h]
theorem eq10_no {c : UInt8} (h : ¬ c.toNat = 10) : Eq10 c false := by constructor <;> simp <;> omega
theorem skS_empty (b : Bool) : skS b [] = 0 := by cases b <;> rfl
theorem skip_nil (s : ByteArray) (b : Bool) : skS b (s.data.toList.drop s.size) = 0 := by rw [← data_len, List.drop_length]; exact skS_empty b

set_option maxHeartbeats 2000000 in
set_option maxRecDepth 100000 in
theorem skip_any (s : ByteArray) (i : Nat) (w : World) (hs : s.size ≤ 100000) (hi : i ≤ s.size) : Calls Tryd.prog 17 #[.string s, .int .i64 (i : Int)] w (RetI w ((i + skS false (s.data.toList.drop i) : Nat) : Int)) := by
  obtain ⟨F, hF⟩ : ∃ F, F = i + skS false (s.data.toList.drop i) := ⟨_, rfl⟩
  rw [← hF]
  have HF := Lib.hid hF.symm
  clear hF
  go_enter Tryd.func17, Tryd.ntmps17
  go_wp2_with fail
  go_loop [1] (fun v => SkR s F 0 false v) (fun v => s.size - (intOf v).toNat)
  case atStart => exact ⟨i, hi, Nat.zero_le _, rfl, HF.out⟩
  case round =>
    obtain ⟨k, hk, _, rfl, hf⟩ := hrel
    by_cases hlt : k < s.size
    · rw [drop_at s k hlt] at hf
      by_cases hb : blQ s[k] = true
      · rw [skS_bl hb] at hf
        have HB : Hid (∀ W, Calls Tryd.prog 31 #[.int .u8 (s[k].toNat : Int)] W (RetB W true)) := fun W => by have := blank_any s[k] W; rwa [hb] at this
        have HX := Lib.hid hf
        clear hf hb
        go_wp2_with (go_at_call 31; refine (HB.out _).mono ?_; rintro e w' ⟨rfl, rfl⟩)
        go_round
        case rel => exact ⟨k + 1, by omega, Nat.zero_le _, by go_num, by have := HX.out; omega⟩
        case measure => simp [intOf] <;> omega
      · have HB : Hid (∀ W, Calls Tryd.prog 31 #[.int .u8 (s[k].toNat : Int)] W (RetB W false)) := fun W => by have := blank_any s[k] W; rwa [Bool.eq_false_iff.2 hb] at this
        by_cases h35 : s[k].toNat = 35
        · rw [skS_hash h35] at hf
          have HX := Lib.hid hf
          have t35 : ((s[k].toNat : Int) == 35) = true := by simp <;> omega
          have H35 := Lib.hid h35
          clear hf hb h35
          go_wp2_with (go_at_call 31; refine (HB.out _).mono ?_; rintro e w' ⟨rfl, rfl⟩)
          clear t35
          go_loop [1] (fun v => SkR s F k true v) (fun v => s.size - (intOf v).toNat)
          case atStart =>
            refine ⟨k, hk, Nat.le_refl _, rfl, ?_⟩
            rw [drop_at s k hlt, skS_in (by have := H35.out; omega)]
            exact HX.out
          case round =>
            obtain ⟨j, hj, hkj, rfl, hg⟩ := hrel
            by_cases hjt : j < s.size
            · rw [drop_at s j hjt] at hg
              by_cases h10 : s[j].toNat = 10
              · rw [skS_nl h10] at hg
                have HY := Lib.hid hg
                obtain ⟨t1, t2⟩ := eq10_is h10
                have hne : k < j := by
                  rcases Nat.lt_or_ge k j with h | h
                  · exact h
                  · obtain rfl : k = j := by omega
                    have := H35.out; omega
                have H10 := Lib.hid h10
                clear hg h10
                go_wp2_with fail
                go_round
                case rel =>
                  refine ⟨j, by omega, Nat.zero_le _, rfl, ?_⟩
                  rw [drop_at s j hjt, skS_bl (by unfold blQ; simp [H10.out])]
                  exact HY.out
                case measure => simp [intOf] <;> omega
              · rw [skS_in h10] at hg
                have HY := Lib.hid hg
                obtain ⟨t1, t2⟩ := eq10_no h10
                clear hg h10
                go_wp2_with fail
                go_round
                case rel => exact ⟨j + 1, by omega, by omega, by go_num, by have := HY.out; omega⟩
                case measure => simp [intOf] <;> omega
            · obtain rfl : j = s.size := by omega
              rw [skip_nil] at hg
              have HY := Lib.hid hg
              clear hg
              go_wp2_with fail
              go_round
              case rel => exact ⟨s.size, Nat.le_refl _, Nat.zero_le _, rfl, by rw [skip_nil]; exact HY.out⟩
              case measure => simp [intOf] <;> omega
        · rw [skS_tok hb h35] at hf
          have t35 : ((s[k].toNat : Int) == 35) = false := by simp <;> omega
          obtain rfl : k = F := by omega
          clear hb h35 hf
          go_wp2_with (go_at_call 31; refine (HB.out _).mono ?_; rintro e w' ⟨rfl, rfl⟩)
          go_ret
          exact ⟨rfl, rfl⟩
    · obtain rfl : k = s.size := by omega
      rw [skip_nil] at hf
      obtain rfl : s.size = F := by omega
      clear hf
      go_wp2_with fail
      go_ret
      exact ⟨rfl, rfl⟩

end Go.Proofs.YtnmiiimbjojcmaaDoor
