/-
  Names walked: the program's and the reference's. No condition.
-/
import Derived.Test.YtcfgpojogomkhaaGreatDoorVd
import Derived.Test.YtcfgpojogomkhaaGreatDoorVc
namespace Go.Proofs.YtcfgpojogomkhaaGreatDoor
open Go.RowKit

set_option maxHeartbeats 1000000 in
set_option maxRecDepth 100000 in
theorem letter_any (c : UInt8) (w : World) : Calls Tryz.prog 75 #[.int .u8 (c.toNat : Int)] w fun e w' => e = .returned (.bool (letB c)) ∧ w = w' := by
  have hc : c.toNat < 65 ∨ (65 ≤ c.toNat ∧ c.toNat ≤ 90) ∨ (90 < c.toNat ∧ c.toNat < 97) ∨ (97 ≤ c.toNat ∧ c.toNat ≤ 122) ∨ 122 < c.toNat := by omega
  rcases hc with h | ⟨h, h'⟩ | ⟨h, h'⟩ | ⟨h, h'⟩ | h
  · rw [letB_lo h]
    go_enter Tryz.func75, Tryz.ntmps75
    go_wp2
    go_ret
    exact ⟨ret_bool (by first | rfl | (simp; omega)), rfl⟩
  · rw [letB_cap h h']
    go_enter Tryz.func75, Tryz.ntmps75
    go_wp2
    go_ret
    exact ⟨ret_bool (by first | rfl | (simp; omega)), rfl⟩
  · rw [letB_mid h h']
    go_enter Tryz.func75, Tryz.ntmps75
    go_wp2
    go_ret
    exact ⟨ret_bool (by first | rfl | (simp; omega)), rfl⟩
  · rw [letB_small h h']
    go_enter Tryz.func75, Tryz.ntmps75
    go_wp2
    go_ret
    exact ⟨ret_bool (by first | rfl | (simp; omega)), rfl⟩
  · rw [letB_hi h]
    go_enter Tryz.func75, Tryz.ntmps75
    go_wp2
    go_ret
    exact ⟨ret_bool (by first | rfl | (simp; omega)), rfl⟩
theorem letter_is {c : UInt8} {b : Bool} (h : letB c = b) (w : World) : Calls Tryz.prog 75 #[.int .u8 (c.toNat : Int)] w fun e w' => e = .returned (.bool b) ∧ w = w' := h ▸ letter_any c w

/-- The loop over a name's bytes: what it knows. -/
def NmR (s : ByteArray) (i : Value) : Prop := ∃ k : Nat, k ≤ s.size ∧ i = .int .i64 k ∧ ∀ c ∈ s.data.toList.take k, (letB c || othB c) = true
theorem nmR_start (s : ByteArray) : NmR s (.int .i64 0) := ⟨0, Nat.zero_le _, rfl, by simp⟩
theorem nmR_next (s : ByteArray) (k : Nat) (hk : k < s.size) (h : ∀ c ∈ s.data.toList.take k, (letB c || othB c) = true) (h1 : (letB s[k] || othB s[k]) = true) :
    ∀ c ∈ s.data.toList.take (k + 1), (letB c || othB c) = true := by
  rw [data_take s k hk]
  intro c hc
  rcases List.mem_append.1 hc with hc | hc
  · exact h c hc
  · rw [List.mem_singleton.1 hc]; exact h1

set_option maxHeartbeats 1000000 in
set_option maxRecDepth 100000 in
theorem name_loop (s : ByteArray) (w : World) (h0 : 0 < s.size) (h4 : s.size ≤ 40) (h1 : letB s[0] = true) :
    Calls Tryz.prog 45 #[.string s] w fun e w' => e = .returned (.bool (nmB s.data.toList)) ∧ w = w' := by
  have HL := Lib.hid (fun W => letter_is h1 W)
  have HA : Hid ((∀ x ∈ s.data.toList, (letB x || othB x) = true) → nmB s.data.toList = true) := fun h => nmB_ok (by rw [data_len]; omega) (by rw [data_len]; omega) (data_head s h0) h1 h
  clear h1
  go_enter Tryz.func45, Tryz.ntmps45
  go_wp2_with fail
  refine (HL.out _).mono ?_
  rintro e w' ⟨rfl, rfl⟩
  go_wp2_with fail
  go_loop [21] (fun i => NmR s i) (fun i => s.size - (intOf i).toNat)
  case atStart => exact nmR_start s
  case round =>
    obtain ⟨k, hk, rfl, hd⟩ := hrel
    have HD := Lib.hid hd
    clear hd HL
    by_cases hlt : k < s.size
    · cases hb : letB s[k] with
      | true =>
        have HN := Lib.hid (nmR_next s k hlt HD.out (by rw [hb]; rfl))
        have HB := Lib.hid (fun W => letter_is hb W)
        clear hb HA HD
        go_wp2_with fail
        refine (HB.out _).mono ?_
        rintro e w' ⟨rfl, rfl⟩
        go_wp2_with fail
        go_round
        case rel => exact ⟨k + 1, by omega, by go_num, HN.out⟩
        case measure => simp [intOf]; omega
      | false =>
        have HB := Lib.hid (fun W => letter_is hb W)
        cases ho : othB s[k] with
        | true =>
          have HN := Lib.hid (nmR_next s k hlt HD.out (by rw [ho]; simp))
          have hc : (48 ≤ s[k].toNat ∧ s[k].toNat ≤ 57) ∨ (95 ≤ s[k].toNat ∧ s[k].toNat ≤ 95) ∨ (45 ≤ s[k].toNat ∧ s[k].toNat ≤ 45) := by unfold othB at ho; simp at ho; omega
          clear hb ho HA HD
          rcases hc with ⟨c1, c2⟩ | ⟨c1, c2⟩ | ⟨c1, c2⟩
          · have p48 : (decide ((s[k].toNat : Int) < 48)) = false := by simp; omega
            have p57 : (decide ((57 : Int) < (s[k].toNat : Int))) = false := by simp; omega
            have e95 : ((s[k].toNat : Int) != 95) = true := by simp; omega
            have e45 : ((s[k].toNat : Int) != 45) = true := by simp; omega
            clear c1 c2
            go_wp2_with fail
            refine (HB.out _).mono ?_
            rintro e w' ⟨rfl, rfl⟩
            go_wp2
            go_round
            case rel => exact ⟨k + 1, by omega, by go_num, HN.out⟩
            case measure => simp [intOf]; omega
          · have p48 : (decide ((s[k].toNat : Int) < 48)) = false := by simp; omega
            have p57 : (decide ((57 : Int) < (s[k].toNat : Int))) = true := by simp; omega
            have e95 : ((s[k].toNat : Int) != 95) = false := by simp; omega
            have e45 : ((s[k].toNat : Int) != 45) = true := by simp; omega
            clear c1 c2
            go_wp2_with fail
            refine (HB.out _).mono ?_
            rintro e w' ⟨rfl, rfl⟩
            go_wp2
            go_round
            case rel => exact ⟨k + 1, by omega, by go_num, HN.out⟩
            case measure => simp [intOf]; omega
          · have p48 : (decide ((s[k].toNat : Int) < 48)) = true := by simp; omega
            have p57 : (decide ((57 : Int) < (s[k].toNat : Int))) = false := by simp; omega
            have e95 : ((s[k].toNat : Int) != 95) = true := by simp; omega
            have e45 : ((s[k].toNat : Int) != 45) = false := by simp; omega
            clear c1 c2
            go_wp2_with fail
            refine (HB.out _).mono ?_
            rintro e w' ⟨rfl, rfl⟩
            go_wp2
            go_round
            case rel => exact ⟨k + 1, by omega, by go_num, HN.out⟩
            case measure => simp [intOf]; omega
        | false =>
          have e4 := Lib.hid (nmB_bad (data_mem s k hlt) hb ho)
          have hc : (0 ≤ s[k].toNat ∧ s[k].toNat ≤ 44) ∨ (46 ≤ s[k].toNat ∧ s[k].toNat ≤ 47) ∨ (58 ≤ s[k].toNat ∧ s[k].toNat ≤ 94) ∨ (96 ≤ s[k].toNat ∧ s[k].toNat ≤ 255) := by
            have := s[k].toNat_lt
            unfold othB at ho; simp at ho; omega
          clear hb ho HA HD
          rcases hc with ⟨c1, c2⟩ | ⟨c1, c2⟩ | ⟨c1, c2⟩ | ⟨c1, c2⟩
          · have p48 : (decide ((s[k].toNat : Int) < 48)) = true := by simp; omega
            have p57 : (decide ((57 : Int) < (s[k].toNat : Int))) = false := by simp; omega
            have e95 : ((s[k].toNat : Int) != 95) = true := by simp; omega
            have e45 : ((s[k].toNat : Int) != 45) = true := by simp; omega
            clear c1 c2
            go_wp2_with fail
            refine (HB.out _).mono ?_
            rintro e w' ⟨rfl, rfl⟩
            go_wp2
            go_ret
            exact ⟨ret_bool e4.out.symm, rfl⟩
          · have p48 : (decide ((s[k].toNat : Int) < 48)) = true := by simp; omega
            have p57 : (decide ((57 : Int) < (s[k].toNat : Int))) = false := by simp; omega
            have e95 : ((s[k].toNat : Int) != 95) = true := by simp; omega
            have e45 : ((s[k].toNat : Int) != 45) = true := by simp; omega
            clear c1 c2
            go_wp2_with fail
            refine (HB.out _).mono ?_
            rintro e w' ⟨rfl, rfl⟩
            go_wp2
            go_ret
            exact ⟨ret_bool e4.out.symm, rfl⟩
          · have p48 : (decide ((s[k].toNat : Int) < 48)) = false := by simp; omega
            have p57 : (decide ((57 : Int) < (s[k].toNat : Int))) = true := by simp; omega
            have e95 : ((s[k].toNat : Int) != 95) = true := by simp; omega
            have e45 : ((s[k].toNat : Int) != 45) = true := by simp; omega
            clear c1 c2
            go_wp2_with fail
            refine (HB.out _).mono ?_
            rintro e w' ⟨rfl, rfl⟩
            go_wp2
            go_ret
            exact ⟨ret_bool e4.out.symm, rfl⟩
          · have p48 : (decide ((s[k].toNat : Int) < 48)) = false := by simp; omega
            have p57 : (decide ((57 : Int) < (s[k].toNat : Int))) = true := by simp; omega
            have e95 : ((s[k].toNat : Int) != 95) = true := by simp; omega
            have e45 : ((s[k].toNat : Int) != 45) = true := by simp; omega
            clear c1 c2
            go_wp2_with fail
            refine (HB.out _).mono ?_
            rintro e w' ⟨rfl, rfl⟩
            go_wp2
            go_ret
            exact ⟨ret_bool e4.out.symm, rfl⟩
    · have e4 := Lib.hid (HA.out (by
        have := HD.out
        rwa [List.take_of_length_le (by rw [data_len]; omega)] at this))
      clear HA HD
      go_wp2
      go_ret
      exact ⟨ret_bool e4.out.symm, rfl⟩

set_option maxHeartbeats 1000000 in
set_option maxRecDepth 100000 in
theorem name_any (s : ByteArray) (w : World) :
    Calls Tryz.prog 45 #[.string s] w fun e w' => e = .returned (.bool (nmB s.data.toList)) ∧ w = w' := by
  by_cases h0 : s.size < 1
  · rw [nmB_len (.inl (by rw [data_len]; exact h0))]
    go_enter Tryz.func45, Tryz.ntmps45
    go_wp2
    go_ret
    exact ⟨rfl, rfl⟩
  by_cases h4 : 40 < s.size
  · rw [nmB_len (.inr (by rw [data_len]; exact h4))]
    go_enter Tryz.func45, Tryz.ntmps45
    go_wp2
    go_ret
    exact ⟨rfl, rfl⟩
  have h0' : 0 < s.size := by omega
  have h4' : s.size ≤ 40 := by omega
  clear h0 h4
  cases h1 : letB (s[0]'h0') with
  | true => exact name_loop s w h0' h4' h1
  | false =>
    rw [nmB_head (data_head s h0') h1]
    have HL := Lib.hid (fun W => letter_is h1 W)
    clear h1
    go_enter Tryz.func45, Tryz.ntmps45
    go_wp2_with fail
    refine (HL.out _).mono ?_
    rintro e w' ⟨rfl, rfl⟩
    go_wp2_with fail
    go_ret
    exact ⟨rfl, rfl⟩

set_option maxHeartbeats 4000000 in
set_option maxRecDepth 100000 in
theorem rname_loop (s : ByteArray) (w : World) (h0 : 0 < s.size) (h4 : s.size ≤ 40) :
    Calls Tryz.prog 56 #[.string s] w fun e w' => e = .returned (.bool (nmB s.data.toList)) ∧ w = w' := by
  have HH : Hid (letB s[0] = false → nmB s.data.toList = false) := fun h => nmB_head (data_head s h0) h
  have HA : Hid (letB s[0] = true → (∀ x ∈ s.data.toList, (letB x || othB x) = true) → nmB s.data.toList = true) := fun h1 h => nmB_ok (by rw [data_len]; omega) (by rw [data_len]; omega) (data_head s h0) h1 h
  have t0 : ((s.size : Int) == 0) = false := by simp; intro h; rw [h] at h0; exact absurd h0 (by decide)
  go_enter Tryz.func56, Tryz.ntmps56
  go_wp2_with fail
  go_loop [3] (fun i => NmR s i ∧ (0 < (intOf i).toNat → letB s[0] = true)) (fun i => s.size - (intOf i).toNat)
  case atStart => exact ⟨nmR_start s, fun h => absurd h (by simp [intOf])⟩
  case round =>
    obtain ⟨⟨k, hk, rfl, hd⟩, h1⟩ := hrel
    have HD := Lib.hid hd
    have h1' : Hid (0 < k → letB s[0] = true) := fun h => h1 (by simpa [intOf] using h)
    clear hd h1
    by_cases hlt : k < s.size
    · have hb : Hid (∀ b, letB s[k] = b → k = 0 → letB s[0] = b) := fun b hb hk => by subst hk; exact hb
      cases hl : letB s[k] with
      | true =>
        have HN := Lib.hid (nmR_next s k hlt HD.out (by rw [hl]; rfl))
        have H0 : Hid (letB s[0] = true) := by
          rcases Nat.eq_zero_or_pos k with e | e
          · exact hb.out _ hl e
          · exact h1'.out e
        have hc : (65 ≤ s[k].toNat ∧ s[k].toNat ≤ 90) ∨ (97 ≤ s[k].toNat ∧ s[k].toNat ≤ 122) := by unfold letB at hl; simp at hl; omega
        clear hb hl HA HD HH h1'
        rcases hc with ⟨c1, c2⟩ | ⟨c1, c2⟩
        · have p97 : (decide ((97 : Int) ≤ (s[k].toNat : Int))) = false := by simp; omega
          have p122 : (decide ((s[k].toNat : Int) ≤ 122)) = true := by simp; omega
          have p65 : (decide ((65 : Int) ≤ (s[k].toNat : Int))) = true := by simp; omega
          have p90 : (decide ((s[k].toNat : Int) ≤ 90)) = true := by simp; omega
          have p48 : (decide ((48 : Int) ≤ (s[k].toNat : Int))) = true := by simp; omega
          have p57 : (decide ((s[k].toNat : Int) ≤ 57)) = false := by simp; omega
          have e95 : ((s[k].toNat : Int) == 95) = false := by simp; omega
          have e45 : ((s[k].toNat : Int) == 45) = false := by simp; omega
          clear c1 c2
          go_wp2
          go_round
          case rel => exact ⟨⟨k + 1, by omega, by go_num, HN.out⟩, fun _ => H0.out⟩
          case measure => simp [intOf]; omega
        · have p97 : (decide ((97 : Int) ≤ (s[k].toNat : Int))) = true := by simp; omega
          have p122 : (decide ((s[k].toNat : Int) ≤ 122)) = true := by simp; omega
          have p65 : (decide ((65 : Int) ≤ (s[k].toNat : Int))) = true := by simp; omega
          have p90 : (decide ((s[k].toNat : Int) ≤ 90)) = false := by simp; omega
          have p48 : (decide ((48 : Int) ≤ (s[k].toNat : Int))) = true := by simp; omega
          have p57 : (decide ((s[k].toNat : Int) ≤ 57)) = false := by simp; omega
          have e95 : ((s[k].toNat : Int) == 95) = false := by simp; omega
          have e45 : ((s[k].toNat : Int) == 45) = false := by simp; omega
          clear c1 c2
          go_wp2
          go_round
          case rel => exact ⟨⟨k + 1, by omega, by go_num, HN.out⟩, fun _ => H0.out⟩
          case measure => simp [intOf]; omega
      | false =>
        have hl' : s[k].toNat < 65 ∨ (90 < s[k].toNat ∧ s[k].toNat < 97) ∨ 122 < s[k].toNat := by unfold letB at hl; simp at hl; omega
        have hu := s[k].toNat_lt
        by_cases hk0 : k = 0
        · have e4 := Lib.hid (HH.out (hb.out _ hl hk0))
          clear hb hl HA HD HH h1'
          subst hk0
          have hc : (0 ≤ s[0].toNat ∧ s[0].toNat ≤ 44) ∨ (45 ≤ s[0].toNat ∧ s[0].toNat ≤ 45) ∨ (46 ≤ s[0].toNat ∧ s[0].toNat ≤ 47) ∨ (48 ≤ s[0].toNat ∧ s[0].toNat ≤ 57) ∨ (58 ≤ s[0].toNat ∧ s[0].toNat ≤ 64) ∨ (91 ≤ s[0].toNat ∧ s[0].toNat ≤ 94) ∨ (95 ≤ s[0].toNat ∧ s[0].toNat ≤ 95) ∨ (96 ≤ s[0].toNat ∧ s[0].toNat ≤ 96) ∨ (123 ≤ s[0].toNat ∧ s[0].toNat ≤ 255) := by omega
          clear hl' hu
          rcases hc with ⟨c1, c2⟩ | ⟨c1, c2⟩ | ⟨c1, c2⟩ | ⟨c1, c2⟩ | ⟨c1, c2⟩ | ⟨c1, c2⟩ | ⟨c1, c2⟩ | ⟨c1, c2⟩ | ⟨c1, c2⟩
          · have p97 : (decide ((97 : Int) ≤ (s[0].toNat : Int))) = false := by simp; omega
            have p122 : (decide ((s[0].toNat : Int) ≤ 122)) = true := by simp; omega
            have p65 : (decide ((65 : Int) ≤ (s[0].toNat : Int))) = false := by simp; omega
            have p90 : (decide ((s[0].toNat : Int) ≤ 90)) = true := by simp; omega
            have p48 : (decide ((48 : Int) ≤ (s[0].toNat : Int))) = false := by simp; omega
            have p57 : (decide ((s[0].toNat : Int) ≤ 57)) = true := by simp; omega
            have e95 : ((s[0].toNat : Int) == 95) = false := by simp; omega
            have e45 : ((s[0].toNat : Int) == 45) = false := by simp; omega
            clear c1 c2
            go_wp2
            go_ret
            exact ⟨ret_bool e4.out.symm, rfl⟩
          · have p97 : (decide ((97 : Int) ≤ (s[0].toNat : Int))) = false := by simp; omega
            have p122 : (decide ((s[0].toNat : Int) ≤ 122)) = true := by simp; omega
            have p65 : (decide ((65 : Int) ≤ (s[0].toNat : Int))) = false := by simp; omega
            have p90 : (decide ((s[0].toNat : Int) ≤ 90)) = true := by simp; omega
            have p48 : (decide ((48 : Int) ≤ (s[0].toNat : Int))) = false := by simp; omega
            have p57 : (decide ((s[0].toNat : Int) ≤ 57)) = true := by simp; omega
            have e95 : ((s[0].toNat : Int) == 95) = false := by simp; omega
            have e45 : ((s[0].toNat : Int) == 45) = true := by simp; omega
            clear c1 c2
            go_wp2
            go_ret
            exact ⟨ret_bool e4.out.symm, rfl⟩
          · have p97 : (decide ((97 : Int) ≤ (s[0].toNat : Int))) = false := by simp; omega
            have p122 : (decide ((s[0].toNat : Int) ≤ 122)) = true := by simp; omega
            have p65 : (decide ((65 : Int) ≤ (s[0].toNat : Int))) = false := by simp; omega
            have p90 : (decide ((s[0].toNat : Int) ≤ 90)) = true := by simp; omega
            have p48 : (decide ((48 : Int) ≤ (s[0].toNat : Int))) = false := by simp; omega
            have p57 : (decide ((s[0].toNat : Int) ≤ 57)) = true := by simp; omega
            have e95 : ((s[0].toNat : Int) == 95) = false := by simp; omega
            have e45 : ((s[0].toNat : Int) == 45) = false := by simp; omega
            clear c1 c2
            go_wp2
            go_ret
            exact ⟨ret_bool e4.out.symm, rfl⟩
          · have p97 : (decide ((97 : Int) ≤ (s[0].toNat : Int))) = false := by simp; omega
            have p122 : (decide ((s[0].toNat : Int) ≤ 122)) = true := by simp; omega
            have p65 : (decide ((65 : Int) ≤ (s[0].toNat : Int))) = false := by simp; omega
            have p90 : (decide ((s[0].toNat : Int) ≤ 90)) = true := by simp; omega
            have p48 : (decide ((48 : Int) ≤ (s[0].toNat : Int))) = true := by simp; omega
            have p57 : (decide ((s[0].toNat : Int) ≤ 57)) = true := by simp; omega
            have e95 : ((s[0].toNat : Int) == 95) = false := by simp; omega
            have e45 : ((s[0].toNat : Int) == 45) = false := by simp; omega
            clear c1 c2
            go_wp2
            go_ret
            exact ⟨ret_bool e4.out.symm, rfl⟩
          · have p97 : (decide ((97 : Int) ≤ (s[0].toNat : Int))) = false := by simp; omega
            have p122 : (decide ((s[0].toNat : Int) ≤ 122)) = true := by simp; omega
            have p65 : (decide ((65 : Int) ≤ (s[0].toNat : Int))) = false := by simp; omega
            have p90 : (decide ((s[0].toNat : Int) ≤ 90)) = true := by simp; omega
            have p48 : (decide ((48 : Int) ≤ (s[0].toNat : Int))) = true := by simp; omega
            have p57 : (decide ((s[0].toNat : Int) ≤ 57)) = false := by simp; omega
            have e95 : ((s[0].toNat : Int) == 95) = false := by simp; omega
            have e45 : ((s[0].toNat : Int) == 45) = false := by simp; omega
            clear c1 c2
            go_wp2
            go_ret
            exact ⟨ret_bool e4.out.symm, rfl⟩
          · have p97 : (decide ((97 : Int) ≤ (s[0].toNat : Int))) = false := by simp; omega
            have p122 : (decide ((s[0].toNat : Int) ≤ 122)) = true := by simp; omega
            have p65 : (decide ((65 : Int) ≤ (s[0].toNat : Int))) = true := by simp; omega
            have p90 : (decide ((s[0].toNat : Int) ≤ 90)) = false := by simp; omega
            have p48 : (decide ((48 : Int) ≤ (s[0].toNat : Int))) = true := by simp; omega
            have p57 : (decide ((s[0].toNat : Int) ≤ 57)) = false := by simp; omega
            have e95 : ((s[0].toNat : Int) == 95) = false := by simp; omega
            have e45 : ((s[0].toNat : Int) == 45) = false := by simp; omega
            clear c1 c2
            go_wp2
            go_ret
            exact ⟨ret_bool e4.out.symm, rfl⟩
          · have p97 : (decide ((97 : Int) ≤ (s[0].toNat : Int))) = false := by simp; omega
            have p122 : (decide ((s[0].toNat : Int) ≤ 122)) = true := by simp; omega
            have p65 : (decide ((65 : Int) ≤ (s[0].toNat : Int))) = true := by simp; omega
            have p90 : (decide ((s[0].toNat : Int) ≤ 90)) = false := by simp; omega
            have p48 : (decide ((48 : Int) ≤ (s[0].toNat : Int))) = true := by simp; omega
            have p57 : (decide ((s[0].toNat : Int) ≤ 57)) = false := by simp; omega
            have e95 : ((s[0].toNat : Int) == 95) = true := by simp; omega
            have e45 : ((s[0].toNat : Int) == 45) = false := by simp; omega
            clear c1 c2
            go_wp2
            go_ret
            exact ⟨ret_bool e4.out.symm, rfl⟩
          · have p97 : (decide ((97 : Int) ≤ (s[0].toNat : Int))) = false := by simp; omega
            have p122 : (decide ((s[0].toNat : Int) ≤ 122)) = true := by simp; omega
            have p65 : (decide ((65 : Int) ≤ (s[0].toNat : Int))) = true := by simp; omega
            have p90 : (decide ((s[0].toNat : Int) ≤ 90)) = false := by simp; omega
            have p48 : (decide ((48 : Int) ≤ (s[0].toNat : Int))) = true := by simp; omega
            have p57 : (decide ((s[0].toNat : Int) ≤ 57)) = false := by simp; omega
            have e95 : ((s[0].toNat : Int) == 95) = false := by simp; omega
            have e45 : ((s[0].toNat : Int) == 45) = false := by simp; omega
            clear c1 c2
            go_wp2
            go_ret
            exact ⟨ret_bool e4.out.symm, rfl⟩
          · have p97 : (decide ((97 : Int) ≤ (s[0].toNat : Int))) = true := by simp; omega
            have p122 : (decide ((s[0].toNat : Int) ≤ 122)) = false := by simp; omega
            have p65 : (decide ((65 : Int) ≤ (s[0].toNat : Int))) = true := by simp; omega
            have p90 : (decide ((s[0].toNat : Int) ≤ 90)) = false := by simp; omega
            have p48 : (decide ((48 : Int) ≤ (s[0].toNat : Int))) = true := by simp; omega
            have p57 : (decide ((s[0].toNat : Int) ≤ 57)) = false := by simp; omega
            have e95 : ((s[0].toNat : Int) == 95) = false := by simp; omega
            have e45 : ((s[0].toNat : Int) == 45) = false := by simp; omega
            clear c1 c2
            go_wp2
            go_ret
            exact ⟨ret_bool e4.out.symm, rfl⟩
        · have H0 := Lib.hid (h1'.out (by omega))
          have ek : ((k : Int) == 0) = false := by simp; omega
          cases ho : othB s[k] with
          | true =>
            have HN := Lib.hid (nmR_next s k hlt HD.out (by rw [ho]; simp))
            have hc : (48 ≤ s[k].toNat ∧ s[k].toNat ≤ 57) ∨ (95 ≤ s[k].toNat ∧ s[k].toNat ≤ 95) ∨ (45 ≤ s[k].toNat ∧ s[k].toNat ≤ 45) := by unfold othB at ho; simp at ho; omega
            clear hb hl hl' hu ho HA HD HH h1'
            rcases hc with ⟨c1, c2⟩ | ⟨c1, c2⟩ | ⟨c1, c2⟩
            · have p97 : (decide ((97 : Int) ≤ (s[k].toNat : Int))) = false := by simp; omega
              have p122 : (decide ((s[k].toNat : Int) ≤ 122)) = true := by simp; omega
              have p65 : (decide ((65 : Int) ≤ (s[k].toNat : Int))) = false := by simp; omega
              have p90 : (decide ((s[k].toNat : Int) ≤ 90)) = true := by simp; omega
              have p48 : (decide ((48 : Int) ≤ (s[k].toNat : Int))) = true := by simp; omega
              have p57 : (decide ((s[k].toNat : Int) ≤ 57)) = true := by simp; omega
              have e95 : ((s[k].toNat : Int) == 95) = false := by simp; omega
              have e45 : ((s[k].toNat : Int) == 45) = false := by simp; omega
              clear c1 c2
              go_wp2
              go_round
              case rel => exact ⟨⟨k + 1, by omega, by go_num, HN.out⟩, fun _ => H0.out⟩
              case measure => simp [intOf]; omega
            · have p97 : (decide ((97 : Int) ≤ (s[k].toNat : Int))) = false := by simp; omega
              have p122 : (decide ((s[k].toNat : Int) ≤ 122)) = true := by simp; omega
              have p65 : (decide ((65 : Int) ≤ (s[k].toNat : Int))) = true := by simp; omega
              have p90 : (decide ((s[k].toNat : Int) ≤ 90)) = false := by simp; omega
              have p48 : (decide ((48 : Int) ≤ (s[k].toNat : Int))) = true := by simp; omega
              have p57 : (decide ((s[k].toNat : Int) ≤ 57)) = false := by simp; omega
              have e95 : ((s[k].toNat : Int) == 95) = true := by simp; omega
              have e45 : ((s[k].toNat : Int) == 45) = false := by simp; omega
              clear c1 c2
              go_wp2
              go_round
              case rel => exact ⟨⟨k + 1, by omega, by go_num, HN.out⟩, fun _ => H0.out⟩
              case measure => simp [intOf]; omega
            · have p97 : (decide ((97 : Int) ≤ (s[k].toNat : Int))) = false := by simp; omega
              have p122 : (decide ((s[k].toNat : Int) ≤ 122)) = true := by simp; omega
              have p65 : (decide ((65 : Int) ≤ (s[k].toNat : Int))) = false := by simp; omega
              have p90 : (decide ((s[k].toNat : Int) ≤ 90)) = true := by simp; omega
              have p48 : (decide ((48 : Int) ≤ (s[k].toNat : Int))) = false := by simp; omega
              have p57 : (decide ((s[k].toNat : Int) ≤ 57)) = true := by simp; omega
              have e95 : ((s[k].toNat : Int) == 95) = false := by simp; omega
              have e45 : ((s[k].toNat : Int) == 45) = true := by simp; omega
              clear c1 c2
              go_wp2
              go_round
              case rel => exact ⟨⟨k + 1, by omega, by go_num, HN.out⟩, fun _ => H0.out⟩
              case measure => simp [intOf]; omega
          | false =>
            have e4 := Lib.hid (nmB_bad (data_mem s k hlt) hl ho)
            have hc : (0 ≤ s[k].toNat ∧ s[k].toNat ≤ 44) ∨ (46 ≤ s[k].toNat ∧ s[k].toNat ≤ 47) ∨ (58 ≤ s[k].toNat ∧ s[k].toNat ≤ 64) ∨ (91 ≤ s[k].toNat ∧ s[k].toNat ≤ 94) ∨ (96 ≤ s[k].toNat ∧ s[k].toNat ≤ 96) ∨ (123 ≤ s[k].toNat ∧ s[k].toNat ≤ 255) := by
              unfold othB at ho; simp at ho; omega
            clear hb hl hl' hu ho HA HD HH h1'
            rcases hc with ⟨c1, c2⟩ | ⟨c1, c2⟩ | ⟨c1, c2⟩ | ⟨c1, c2⟩ | ⟨c1, c2⟩ | ⟨c1, c2⟩
            · have p97 : (decide ((97 : Int) ≤ (s[k].toNat : Int))) = false := by simp; omega
              have p122 : (decide ((s[k].toNat : Int) ≤ 122)) = true := by simp; omega
              have p65 : (decide ((65 : Int) ≤ (s[k].toNat : Int))) = false := by simp; omega
              have p90 : (decide ((s[k].toNat : Int) ≤ 90)) = true := by simp; omega
              have p48 : (decide ((48 : Int) ≤ (s[k].toNat : Int))) = false := by simp; omega
              have p57 : (decide ((s[k].toNat : Int) ≤ 57)) = true := by simp; omega
              have e95 : ((s[k].toNat : Int) == 95) = false := by simp; omega
              have e45 : ((s[k].toNat : Int) == 45) = false := by simp; omega
              clear c1 c2
              go_wp2
              go_ret
              exact ⟨ret_bool e4.out.symm, rfl⟩
            · have p97 : (decide ((97 : Int) ≤ (s[k].toNat : Int))) = false := by simp; omega
              have p122 : (decide ((s[k].toNat : Int) ≤ 122)) = true := by simp; omega
              have p65 : (decide ((65 : Int) ≤ (s[k].toNat : Int))) = false := by simp; omega
              have p90 : (decide ((s[k].toNat : Int) ≤ 90)) = true := by simp; omega
              have p48 : (decide ((48 : Int) ≤ (s[k].toNat : Int))) = false := by simp; omega
              have p57 : (decide ((s[k].toNat : Int) ≤ 57)) = true := by simp; omega
              have e95 : ((s[k].toNat : Int) == 95) = false := by simp; omega
              have e45 : ((s[k].toNat : Int) == 45) = false := by simp; omega
              clear c1 c2
              go_wp2
              go_ret
              exact ⟨ret_bool e4.out.symm, rfl⟩
            · have p97 : (decide ((97 : Int) ≤ (s[k].toNat : Int))) = false := by simp; omega
              have p122 : (decide ((s[k].toNat : Int) ≤ 122)) = true := by simp; omega
              have p65 : (decide ((65 : Int) ≤ (s[k].toNat : Int))) = false := by simp; omega
              have p90 : (decide ((s[k].toNat : Int) ≤ 90)) = true := by simp; omega
              have p48 : (decide ((48 : Int) ≤ (s[k].toNat : Int))) = true := by simp; omega
              have p57 : (decide ((s[k].toNat : Int) ≤ 57)) = false := by simp; omega
              have e95 : ((s[k].toNat : Int) == 95) = false := by simp; omega
              have e45 : ((s[k].toNat : Int) == 45) = false := by simp; omega
              clear c1 c2
              go_wp2
              go_ret
              exact ⟨ret_bool e4.out.symm, rfl⟩
            · have p97 : (decide ((97 : Int) ≤ (s[k].toNat : Int))) = false := by simp; omega
              have p122 : (decide ((s[k].toNat : Int) ≤ 122)) = true := by simp; omega
              have p65 : (decide ((65 : Int) ≤ (s[k].toNat : Int))) = true := by simp; omega
              have p90 : (decide ((s[k].toNat : Int) ≤ 90)) = false := by simp; omega
              have p48 : (decide ((48 : Int) ≤ (s[k].toNat : Int))) = true := by simp; omega
              have p57 : (decide ((s[k].toNat : Int) ≤ 57)) = false := by simp; omega
              have e95 : ((s[k].toNat : Int) == 95) = false := by simp; omega
              have e45 : ((s[k].toNat : Int) == 45) = false := by simp; omega
              clear c1 c2
              go_wp2
              go_ret
              exact ⟨ret_bool e4.out.symm, rfl⟩
            · have p97 : (decide ((97 : Int) ≤ (s[k].toNat : Int))) = false := by simp; omega
              have p122 : (decide ((s[k].toNat : Int) ≤ 122)) = true := by simp; omega
              have p65 : (decide ((65 : Int) ≤ (s[k].toNat : Int))) = true := by simp; omega
              have p90 : (decide ((s[k].toNat : Int) ≤ 90)) = false := by simp; omega
              have p48 : (decide ((48 : Int) ≤ (s[k].toNat : Int))) = true := by simp; omega
              have p57 : (decide ((s[k].toNat : Int) ≤ 57)) = false := by simp; omega
              have e95 : ((s[k].toNat : Int) == 95) = false := by simp; omega
              have e45 : ((s[k].toNat : Int) == 45) = false := by simp; omega
              clear c1 c2
              go_wp2
              go_ret
              exact ⟨ret_bool e4.out.symm, rfl⟩
            · have p97 : (decide ((97 : Int) ≤ (s[k].toNat : Int))) = true := by simp; omega
              have p122 : (decide ((s[k].toNat : Int) ≤ 122)) = false := by simp; omega
              have p65 : (decide ((65 : Int) ≤ (s[k].toNat : Int))) = true := by simp; omega
              have p90 : (decide ((s[k].toNat : Int) ≤ 90)) = false := by simp; omega
              have p48 : (decide ((48 : Int) ≤ (s[k].toNat : Int))) = true := by simp; omega
              have p57 : (decide ((s[k].toNat : Int) ≤ 57)) = false := by simp; omega
              have e95 : ((s[k].toNat : Int) == 95) = false := by simp; omega
              have e45 : ((s[k].toNat : Int) == 45) = false := by simp; omega
              clear c1 c2
              go_wp2
              go_ret
              exact ⟨ret_bool e4.out.symm, rfl⟩
    · have e4 := Lib.hid (HA.out (h1'.out (by omega)) (by
        have := HD.out
        rwa [List.take_of_length_le (by rw [data_len]; omega)] at this))
      clear HA HD HH h1'
      go_wp2
      go_ret
      exact ⟨ret_bool e4.out.symm, rfl⟩

set_option maxHeartbeats 1000000 in
set_option maxRecDepth 100000 in
theorem rname_any (s : ByteArray) (w : World) :
    Calls Tryz.prog 56 #[.string s] w fun e w' => e = .returned (.bool (nmB s.data.toList)) ∧ w = w' := by
  by_cases h0 : s.size < 1
  · rw [nmB_len (.inl (by rw [data_len]; exact h0))]
    have hz : s.size = 0 := by omega
    have t0 : ((s.size : Int) == 0) = true := by rw [hz]; rfl
    clear hz h0
    go_enter Tryz.func56, Tryz.ntmps56
    go_wp2
    go_ret
    exact ⟨rfl, rfl⟩
  by_cases h4 : 40 < s.size
  · rw [nmB_len (.inr (by rw [data_len]; exact h4))]
    have h0' : 0 < s.size := by omega
    have t0 : ((s.size : Int) == 0) = false := by simp; intro h; rw [h] at h0'; exact absurd h0' (by decide)
    have t4 : decide ((40 : Int) < (s.size : Int)) = true := by simp; omega
    clear h0
    go_enter Tryz.func56, Tryz.ntmps56
    go_wp2
    go_ret
    exact ⟨rfl, rfl⟩
  exact rname_loop s w (by omega) (by omega)

end Go.Proofs.YtcfgpojogomkhaaGreatDoor
