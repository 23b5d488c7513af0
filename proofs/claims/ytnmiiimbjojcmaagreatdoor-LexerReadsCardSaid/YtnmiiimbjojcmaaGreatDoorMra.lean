/-
  The reference's classes of bytes, runs of digits, forms and ends of dates and numbers, leading zeros: walked. No condition.
-/
import Derived.Test.YtnmiiimbjojcmaaGreatDoorXa
import Derived.Test.YtnmiiimbjojcmaaGreatDoorVa
namespace Go.Proofs.YtnmiiimbjojcmaaGreatDoor
open Go.RowKit Go.Shelf

theorem digit_rf (c : UInt8) (w : World) : Calls Tryz.prog 32 #[.int .u8 (c.toNat : Int)] w (RetB w (dgQ c)) := by
  by_cases h1 : c.toNat < 48
  · have hv : dgQ c = false := by unfold dgQ; simp; omega
    rw [hv]
    go_enter Tryz.func32, Tryz.ntmps32
    go_wp2
    go_ret
    exact ⟨rfl, rfl⟩
  · by_cases h2 : 57 < c.toNat
    · have hv : dgQ c = false := by unfold dgQ; simp; omega
      rw [hv]
      have d1 : decide ((c.toNat : Int) ≤ 57) = false := by simp; omega
      go_enter Tryz.func32, Tryz.ntmps32
      go_wp2
      go_ret
      exact ⟨rfl, rfl⟩
    · have hv : dgQ c = true := by unfold dgQ; simp; omega
      rw [hv]
      have d1 : decide ((c.toNat : Int) ≤ 57) = true := by simp; omega
      go_enter Tryz.func32, Tryz.ntmps32
      go_wp2
      go_ret
      exact ⟨rfl, rfl⟩
theorem letter_rf (c : UInt8) (w : World) : Calls Tryz.prog 26 #[.int .u8 (c.toNat : Int)] w (RetB w (letB c)) := by
  rcases (show c.toNat < 65 ∨ (65 ≤ c.toNat ∧ c.toNat ≤ 90) ∨ (90 < c.toNat ∧ c.toNat < 97) ∨ (97 ≤ c.toNat ∧ c.toNat ≤ 122) ∨ 122 < c.toNat by omega) with h | ⟨h, h2⟩ | ⟨h, h2⟩ | ⟨h, h2⟩ | h
  · have hv : letB c = false := by unfold letB; simp; omega
    rw [hv]
    have d1 : decide ((97 : Int) ≤ (c.toNat : Int)) = false := by simp; omega
    have d2 : decide ((c.toNat : Int) ≤ 122) = true := by simp; omega
    have d3 : decide ((65 : Int) ≤ (c.toNat : Int)) = false := by simp; omega
    have d4 : decide ((c.toNat : Int) ≤ 90) = true := by simp; omega
    go_enter Tryz.func26, Tryz.ntmps26
    go_wp2
    go_ret
    exact ⟨rfl, rfl⟩
  · have hv : letB c = true := by unfold letB; simp; omega
    rw [hv]
    have d1 : decide ((97 : Int) ≤ (c.toNat : Int)) = false := by simp; omega
    have d2 : decide ((c.toNat : Int) ≤ 122) = true := by simp; omega
    have d3 : decide ((65 : Int) ≤ (c.toNat : Int)) = true := by simp; omega
    have d4 : decide ((c.toNat : Int) ≤ 90) = true := by simp; omega
    go_enter Tryz.func26, Tryz.ntmps26
    go_wp2
    go_ret
    exact ⟨rfl, rfl⟩
  · have hv : letB c = false := by unfold letB; simp; omega
    rw [hv]
    have d1 : decide ((97 : Int) ≤ (c.toNat : Int)) = false := by simp; omega
    have d2 : decide ((c.toNat : Int) ≤ 122) = true := by simp; omega
    have d3 : decide ((65 : Int) ≤ (c.toNat : Int)) = true := by simp; omega
    have d4 : decide ((c.toNat : Int) ≤ 90) = false := by simp; omega
    go_enter Tryz.func26, Tryz.ntmps26
    go_wp2
    go_ret
    exact ⟨rfl, rfl⟩
  · have hv : letB c = true := by unfold letB; simp; omega
    rw [hv]
    have d1 : decide ((97 : Int) ≤ (c.toNat : Int)) = true := by simp; omega
    have d2 : decide ((c.toNat : Int) ≤ 122) = true := by simp; omega
    have d3 : decide ((65 : Int) ≤ (c.toNat : Int)) = true := by simp; omega
    have d4 : decide ((c.toNat : Int) ≤ 90) = false := by simp; omega
    go_enter Tryz.func26, Tryz.ntmps26
    go_wp2
    go_ret
    exact ⟨rfl, rfl⟩
  · have hv : letB c = false := by unfold letB; simp; omega
    rw [hv]
    have d1 : decide ((97 : Int) ≤ (c.toNat : Int)) = true := by simp; omega
    have d2 : decide ((c.toNat : Int) ≤ 122) = false := by simp; omega
    have d3 : decide ((65 : Int) ≤ (c.toNat : Int)) = true := by simp; omega
    have d4 : decide ((c.toNat : Int) ≤ 90) = false := by simp; omega
    go_enter Tryz.func26, Tryz.ntmps26
    go_wp2
    go_ret
    exact ⟨rfl, rfl⟩
theorem inner_rf (c : UInt8) (w : World) : Calls Tryz.prog 27 #[.int .u8 (c.toNat : Int)] w (RetB w (wdQ c)) := by
  have HL := Lib.hid (fun W => letter_rf c W)
  have HD := Lib.hid (fun W => digit_rf c W)
  cases h1 : letB c with
  | true =>
    rw [h1] at HL
    have hv : wdQ c = true := by unfold wdQ; rw [h1]; rfl
    rw [hv]
    clear h1 hv
    go_enter Tryz.func27, Tryz.ntmps27
    go_wp2_with fail
    refine (HL.out _).mono ?_
    rintro e w' ⟨rfl, rfl⟩
    go_wp2_with fail
    go_ret
    exact ⟨rfl, rfl⟩
  | false =>
    rw [h1] at HL
    cases h2 : dgQ c with
    | true =>
      rw [h2] at HD
      have hv : wdQ c = true := by
        unfold dgQ at h2; unfold wdQ othB; simp at h2 ⊢; omega
      rw [hv]
      clear h1 h2 hv
      go_enter Tryz.func27, Tryz.ntmps27
      go_wp2_with fail
      refine (HL.out _).mono ?_
      rintro e w' ⟨rfl, rfl⟩
      go_wp2_with fail
      refine (HD.out _).mono ?_
      rintro e w' ⟨rfl, rfl⟩
      go_wp2_with fail
      go_ret
      exact ⟨rfl, rfl⟩
    | false =>
      rw [h2] at HD
      by_cases h95 : c.toNat = 95
      · have hv : wdQ c = true := by unfold wdQ othB; simp; omega
        rw [hv]
        have t1 : ((c.toNat : Int) == 95) = true := by simp; omega
        clear h1 h2 hv h95
        go_enter Tryz.func27, Tryz.ntmps27
        go_wp2_with fail
        refine (HL.out _).mono ?_
        rintro e w' ⟨rfl, rfl⟩
        go_wp2_with fail
        refine (HD.out _).mono ?_
        rintro e w' ⟨rfl, rfl⟩
        go_wp2_with fail
        go_ret
        exact ⟨rfl, rfl⟩
      · have t1 : ((c.toNat : Int) == 95) = false := by simp; omega
        by_cases h45 : c.toNat = 45
        · have hv : wdQ c = true := by unfold wdQ othB; simp; omega
          rw [hv]
          have t2 : ((c.toNat : Int) == 45) = true := by simp; omega
          clear h1 h2 hv h95 h45
          go_enter Tryz.func27, Tryz.ntmps27
          go_wp2_with fail
          refine (HL.out _).mono ?_
          rintro e w' ⟨rfl, rfl⟩
          go_wp2_with fail
          refine (HD.out _).mono ?_
          rintro e w' ⟨rfl, rfl⟩
          go_wp2_with fail
          go_ret
          exact ⟨rfl, rfl⟩
        · have hv : wdQ c = false := by
            unfold wdQ; rw [h1]; unfold dgQ at h2; unfold othB; simp at h2 ⊢; omega
          rw [hv]
          have t2 : ((c.toNat : Int) == 45) = false := by simp; omega
          clear h1 h2 hv h95 h45
          go_enter Tryz.func27, Tryz.ntmps27
          go_wp2_with fail
          refine (HL.out _).mono ?_
          rintro e w' ⟨rfl, rfl⟩
          go_wp2_with fail
          refine (HD.out _).mono ?_
          rintro e w' ⟨rfl, rfl⟩
          go_wp2_with fail
          go_ret
          exact ⟨rfl, rfl⟩
theorem dropAt (s : ByteArray) (k : Nat) (h : k < s.size) : s.data.toList.drop k = s[k] :: s.data.toList.drop (k + 1) := by
  rw [List.drop_eq_getElem_cons (by rw [data_len]; exact h)]; rfl
theorem dropAll (s : ByteArray) : s.data.toList.drop s.size = [] := by rw [← data_len, List.drop_length]
theorem digitAt_rf (s : ByteArray) (k : Nat) (w : World) (hk : k ≤ s.size) : Calls Tryz.prog 33 #[.string s, .int .i64 (k : Int)] w (RetB w (dgH (s.data.toList.drop k))) := by
  by_cases hlt : k < s.size
  · have e : dgH (s.data.toList.drop k) = dgQ s[k] := by rw [dropAt s k hlt]; rfl
    rw [e]
    have HD := Lib.hid (fun W => digit_rf s[k] W)
    clear e
    go_enter Tryz.func33, Tryz.ntmps33
    go_wp2_with fail
    refine (HD.out _).mono ?_
    rintro e w' ⟨rfl, rfl⟩
    go_wp2_with fail
    go_ret
    exact ⟨rfl, rfl⟩
  · obtain rfl : k = s.size := by omega
    have e : dgH (s.data.toList.drop s.size) = false := by rw [dropAll]; rfl
    rw [e]
    clear e
    go_enter Tryz.func33, Tryz.ntmps33
    go_wp2_with fail
    go_ret
    exact ⟨rfl, rfl⟩
def RnR (s : ByteArray) (F : Nat) (v : Value) : Prop := ∃ k : Nat, k ≤ s.size ∧ v = .int .i64 (k : Int) ∧ k + spn dgQ (s.data.toList.drop k) = F
set_option maxHeartbeats 1000000 in
theorem run_rf (s : ByteArray) (i : Nat) (w : World) (hs : s.size ≤ 100000) (hi : i ≤ s.size) : Calls Tryz.prog 49 #[.string s, .int .i64 (i : Int)] w (RetI w ((i + spn dgQ (s.data.toList.drop i) : Nat) : Int)) := by
  obtain ⟨F, hF⟩ : ∃ F, F = i + spn dgQ (s.data.toList.drop i) := ⟨_, rfl⟩
  rw [← hF]
  have HF := Lib.hid hF.symm
  clear hF
  go_enter Tryz.func49, Tryz.ntmps49
  go_wp2_with fail
  go_loop [1] (fun v => RnR s F v) (fun v => s.size - (intOf v).toNat)
  case atStart => exact ⟨i, hi, rfl, HF.out⟩
  case round =>
    obtain ⟨k, hk, rfl, hf⟩ := hrel
    by_cases hlt : k < s.size
    · rw [dropAt s k hlt] at hf
      have HD := Lib.hid (fun W => digit_rf s[k] W)
      cases hd : dgQ s[k] with
      | true =>
        rw [hd] at HD
        have hX : k + 1 + spn dgQ (s.data.toList.drop (k + 1)) = F := by
          unfold spn at hf; rw [if_pos hd] at hf; omega
        have HX := Lib.hid hX
        clear hf hd hX
        go_wp2_with fail
        refine (HD.out _).mono ?_
        rintro e w' ⟨rfl, rfl⟩
        go_wp2_with fail
        go_round
        case rel => exact ⟨k + 1, by omega, by go_num, HX.out⟩
        case measure => simp [intOf] <;> omega
      | false =>
        rw [hd] at HD
        have hX : k = F := by
          unfold spn at hf; rw [if_neg (by rw [hd]; decide)] at hf; omega
        subst hX
        clear hf hd
        go_wp2_with fail
        refine (HD.out _).mono ?_
        rintro e w' ⟨rfl, rfl⟩
        go_wp2_with fail
        go_ret
        exact ⟨rfl, rfl⟩
    · obtain rfl : k = s.size := by omega
      have hX : s.size = F := by rw [dropAll] at hf; exact hf
      clear hf
      subst hX
      go_wp2_with fail
      go_ret
      exact ⟨rfl, rfl⟩
theorem ended_rf (s : ByteArray) (k : Nat) (w : World) (hk : k ≤ s.size) : Calls Tryz.prog 30 #[.string s, .int .i64 (k : Int)] w (RetB w (endQ (s.data.toList.drop k))) := by
  by_cases hlt : k < s.size
  · have e : endQ (s.data.toList.drop k) = (!wdQ s[k] && decide (s[k].toNat ≠ 34 ∧ s[k].toNat ≠ 46 ∧ s[k].toNat ≠ 47)) := by rw [dropAt s k hlt]; rfl
    rw [e]
    have HD := Lib.hid (fun W => inner_rf s[k] W)
    clear e
    have ek : decide (s.size ≤ k) = false := by simp; omega
    cases hd : wdQ s[k] with
    | true =>
      rw [hd] at HD
      clear hd
      go_enter Tryz.func30, Tryz.ntmps30
      go_wp2_with fail
      refine (HD.out _).mono ?_
      rintro e w' ⟨rfl, rfl⟩
      go_wp2_with fail
      go_ret
      exact ⟨rfl, rfl⟩
    | false =>
      rw [hd] at HD
      clear hd
      by_cases h : s[k].toNat ≠ 34 ∧ s[k].toNat ≠ 46 ∧ s[k].toNat ≠ 47
      · rw [decide_eq_true h]
        have e34 : ((s[k].toNat : Int) != 34) = true := by simp; omega
        have e46 : ((s[k].toNat : Int) != 46) = true := by simp; omega
        have e47 : ((s[k].toNat : Int) != 47) = true := by simp; omega
        clear h
        go_enter Tryz.func30, Tryz.ntmps30
        go_wp2_with fail
        refine (HD.out _).mono ?_
        rintro e w' ⟨rfl, rfl⟩
        go_wp2_with fail
        go_ret
        exact ⟨rfl, rfl⟩
      · rw [decide_eq_false h]
        rcases (show s[k].toNat = 34 ∨ s[k].toNat = 46 ∨ s[k].toNat = 47 by omega) with h | h | h
        · have e34 : ((s[k].toNat : Int) != 34) = false := by simp; omega
          have e46 : ((s[k].toNat : Int) != 46) = true := by simp; omega
          have e47 : ((s[k].toNat : Int) != 47) = true := by simp; omega
          clear h
          go_enter Tryz.func30, Tryz.ntmps30
          go_wp2_with fail
          refine (HD.out _).mono ?_
          rintro e w' ⟨rfl, rfl⟩
          go_wp2_with fail
          go_ret
          exact ⟨rfl, rfl⟩
        · have e34 : ((s[k].toNat : Int) != 34) = true := by simp; omega
          have e46 : ((s[k].toNat : Int) != 46) = false := by simp; omega
          have e47 : ((s[k].toNat : Int) != 47) = true := by simp; omega
          clear h
          go_enter Tryz.func30, Tryz.ntmps30
          go_wp2_with fail
          refine (HD.out _).mono ?_
          rintro e w' ⟨rfl, rfl⟩
          go_wp2_with fail
          go_ret
          exact ⟨rfl, rfl⟩
        · have e34 : ((s[k].toNat : Int) != 34) = true := by simp; omega
          have e46 : ((s[k].toNat : Int) != 46) = true := by simp; omega
          have e47 : ((s[k].toNat : Int) != 47) = false := by simp; omega
          clear h
          go_enter Tryz.func30, Tryz.ntmps30
          go_wp2_with fail
          refine (HD.out _).mono ?_
          rintro e w' ⟨rfl, rfl⟩
          go_wp2_with fail
          go_ret
          exact ⟨rfl, rfl⟩
  · obtain rfl : k = s.size := by omega
    have e : endQ (s.data.toList.drop s.size) = true := by rw [dropAll]; rfl
    rw [e]
    clear e
    go_enter Tryz.func30, Tryz.ntmps30
    go_wp2_with fail
    go_ret
    exact ⟨rfl, rfl⟩

end Go.Proofs.YtnmiiimbjojcmaaGreatDoor
