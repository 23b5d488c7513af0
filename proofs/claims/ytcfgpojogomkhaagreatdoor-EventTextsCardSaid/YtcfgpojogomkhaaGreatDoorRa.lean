/-
  The reference's figure at any word. No condition.
-/
import Derived.Test.YtcfgpojogomkhaaGreatDoorWd
namespace Go.Proofs.YtcfgpojogomkhaaGreatDoor
open Go.RowKit

/-- What the reference's figure finds in a word. -/
def figV (l : List UInt8) : Int := if l.length < 1 ∨ 17 < l.length ∨ (1 < l.length ∧ l.head? = some 48) then -1 else if (l.all fun c => decide (48 ≤ c.toNat ∧ c.toNat ≤ 57)) = true then (numV l : Int) else -1

def FigL (s : ByteArray) (nv iv : Value) : Prop := ∃ k : Nat, k ≤ s.size ∧ iv = .int .i64 (k : Int) ∧ nv = .int .i64 (numV (s.data.toList.take k) : Int) ∧ ∀ c ∈ s.data.toList.take k, 48 ≤ c.toNat ∧ c.toNat ≤ 57

set_option maxHeartbeats 1000000 in
set_option maxRecDepth 100000 in
theorem figure_loop (s : ByteArray) (w : World) (h1 : 1 ≤ s.size) (h17 : s.size ≤ 17) (q : Bool) (hq : decide ((1 : Int) < (s.size : Int)) = q) (h0 : q = true → (((s[0]'(by omega)).toNat : Int) == 48) = false) :
    Calls Tryz.prog 35 #[.string s] w (RetI w (if (s.data.toList.all fun c => decide (48 ≤ c.toNat ∧ c.toNat ≤ 57)) = true then (numV s.data.toList : Int) else -1)) := by
  have HB : Hid (∀ k, k ≤ s.size → (∀ c ∈ s.data.toList.take k, 48 ≤ c.toNat ∧ c.toNat ≤ 57) → numV (s.data.toList.take k) < 10 ^ 17) := fun k hk h => by
    have h1 := numV_le (s.data.toList.take k) h
    have h2 : (s.data.toList.take k).length ≤ 17 := by rw [List.length_take, data_len]; omega
    exact Nat.lt_of_lt_of_le h1 (Nat.pow_le_pow_right (by omega) h2)
  have HALL : Hid ((∀ c ∈ s.data.toList, 48 ≤ c.toNat ∧ c.toNat ≤ 57) → (if (s.data.toList.all fun c => decide (48 ≤ c.toNat ∧ c.toNat ≤ 57)) = true then (numV s.data.toList : Int) else -1) = (numV s.data.toList : Int)) := fun h => by
    rw [if_pos (List.all_eq_true.2 fun c hc => decide_eq_true (h c hc))]
  have HNO : Hid (∀ c ∈ s.data.toList, ¬(48 ≤ c.toNat ∧ c.toNat ≤ 57) → (if (s.data.toList.all fun c => decide (48 ≤ c.toNat ∧ c.toNat ≤ 57)) = true then (numV s.data.toList : Int) else -1) = -1) := fun c hc hn => by
    rw [if_neg fun h => hn (of_decide_eq_true (List.all_eq_true.1 h c hc))]
  have HST : Hid (FigL s (.int .i64 0) (.int .i64 0)) := ⟨0, Nat.zero_le _, rfl, rfl, fun c hc => by cases hc⟩
  obtain ⟨R, hR⟩ : ∃ R : Int, R = (if (s.data.toList.all fun c => decide (48 ≤ c.toNat ∧ c.toNat ≤ 57)) = true then (numV s.data.toList : Int) else -1) := ⟨_, rfl⟩
  rw [← hR] at HALL HNO ⊢
  clear hR
  have g1 : decide ((s.size : Int) < 1) = false := by simp; omega
  have g2 : decide ((17 : Int) < (s.size : Int)) = false := by simp; omega
  have go : ∀ z : Bool, True → True := fun _ h => h
  clear go
  cases q
  all_goals
    (try have h0 := h0 rfl)
    go_enter Tryz.func35, Tryz.ntmps35
    go_wp2_with fail
    go_loop [3, 4] (FigL s) (fun _ i => s.size - (intOf i).toNat)
    case atStart => exact HST.out
    case round =>
      obtain ⟨k, hk, rfl, rfl, hdg⟩ := hrel
      have hb := HB.out k hk hdg
      by_cases hlt : k < s.size
      · have HN : Hid (∀ V, V = numV (s.data.toList.take k) → 48 ≤ s[k].toNat → s[k].toNat ≤ 57 → FigL s (.int .i64 (10 * (V : Int) + (s[k].toNat : Int) - 48)) (.int .i64 ((k : Int) + 1))) := fun V hV c1 c2 => by
          refine ⟨k + 1, by omega, by congr 1, ?_, ?_⟩
          · rw [data_take s k hlt, numV_snoc, hV]; congr 1; omega
          · rw [data_take s k hlt]
            intro c hc
            rcases List.mem_append.1 hc with hc | hc
            · exact hdg c hc
            · rw [List.mem_singleton.1 hc]; exact ⟨c1, c2⟩
        have HNK : Hid (¬(48 ≤ s[k].toNat ∧ s[k].toNat ≤ 57) → R = -1) := fun hn => HNO.out s[k] (List.mem_of_getElem? (Lib.data_getElem? s k hlt)) hn
        obtain ⟨V, hV⟩ : ∃ V, V = numV (s.data.toList.take k) := ⟨_, rfl⟩
        rw [← hV] at hb HN ⊢
        have HN2 := Lib.hid (HN.out V rfl)
        clear hV hdg HN HNO HB HST HALL
        have hb' : V < 100000000000000000 := hb
        clear hb
        by_cases c1 : s[k].toNat < 48
        · have e := Lib.hid (HNK.out (by omega))
          clear HNK HN2
          go_wp2_with fail
          go_ret
          exact ⟨ret_int e.out.symm, rfl⟩
        · by_cases c2 : 57 < s[k].toNat
          · have e := Lib.hid (HNK.out (by omega))
            clear HNK HN2
            go_wp2_with fail
            go_ret
            exact ⟨ret_int e.out.symm, rfl⟩
          · have HR := Lib.hid (HN2.out (by omega) (by omega))
            have c1' : 48 ≤ s[k].toNat := by omega
            have c2' : s[k].toNat ≤ 57 := by omega
            clear HN2 HNK
            go_wp2_with fail
            go_round
            case rel => simpa using HR.out
            case measure => simp [intOf]; omega
      · have hk : k = s.size := by omega
        have e : Hid (R = (numV s.data.toList : Int)) := HALL.out fun c hc => hdg c (by rw [List.take_of_length_le (by rw [data_len]; omega)]; exact hc)
        rw [show s.data.toList.take k = s.data.toList from List.take_of_length_le (by rw [data_len]; omega)]
        clear hdg HB HST HALL HNO hb
        go_wp2_with fail
        go_ret
        exact ⟨ret_int e.out.symm, rfl⟩

set_option maxHeartbeats 1000000 in
set_option maxRecDepth 100000 in
theorem figure_any (s : ByteArray) (w : World) : Calls Tryz.prog 35 #[.string s] w (RetI w (figV s.data.toList)) := by
  by_cases h1 : s.size < 1
  · have e : Hid (figV s.data.toList = -1) := by show _ = _; unfold figV; rw [if_pos (.inl (by rw [data_len]; exact h1))]
    have g1 : decide ((s.size : Int) < 1) = true := by simp; omega
    go_enter Tryz.func35, Tryz.ntmps35
    go_wp2_with fail
    go_ret
    exact ⟨ret_int e.out.symm, rfl⟩
  · have g1 : decide ((s.size : Int) < 1) = false := by simp; omega
    by_cases h2 : 17 < s.size
    · have e : Hid (figV s.data.toList = -1) := by show _ = _; unfold figV; rw [if_pos (.inr (.inl (by rw [data_len]; exact h2)))]
      have g2 : decide ((17 : Int) < (s.size : Int)) = true := by simp; omega
      go_enter Tryz.func35, Tryz.ntmps35
      go_wp2_with fail
      go_ret
      exact ⟨ret_int e.out.symm, rfl⟩
    · have g2 : decide ((17 : Int) < (s.size : Int)) = false := by simp; omega
      have hh : s.data.toList.head? = some (s[0]'(by omega)) := by
        rw [List.head?_eq_getElem?]; exact Lib.data_getElem? s 0 (by omega)
      by_cases h3 : 1 < s.size ∧ (s[0]'(by omega)).toNat = 48
      · have e : Hid (figV s.data.toList = -1) := by
          show _ = _; unfold figV; rw [if_pos (.inr (.inr ⟨by rw [data_len]; exact h3.1, by rw [hh]; exact congrArg some (UInt8.toNat_inj.1 h3.2)⟩))]
        have g3 : decide ((1 : Int) < (s.size : Int)) = true := by simp; omega
        have g4 : (((s[0]'(by omega)).toNat : Int) == 48) = true := by rw [h3.2]; rfl
        clear hh
        go_enter Tryz.func35, Tryz.ntmps35
        go_wp2_with fail
        go_ret
        exact ⟨ret_int e.out.symm, rfl⟩
      · have e : figV s.data.toList = if (s.data.toList.all fun c => decide (48 ≤ c.toNat ∧ c.toNat ≤ 57)) = true then (numV s.data.toList : Int) else -1 := by
          unfold figV
          rw [if_neg]
          rintro (h | h | ⟨h, h'⟩)
          · rw [data_len] at h; omega
          · rw [data_len] at h; omega
          · rw [data_len] at h
            rw [hh] at h'
            exact h3 ⟨h, by rw [Option.some.inj h']; rfl⟩
        rw [e]
        refine figure_loop s w (by omega) (by omega) _ rfl fun hq => ?_
        have : 1 < s.size := by have := of_decide_eq_true hq; omega
        have hn : (s[0]'(by omega)).toNat ≠ 48 := fun h => h3 ⟨this, h⟩
        simp; omega

end Go.Proofs.YtcfgpojogomkhaaGreatDoor
