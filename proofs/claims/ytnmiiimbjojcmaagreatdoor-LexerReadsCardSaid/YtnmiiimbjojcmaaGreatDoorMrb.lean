/-
  The reference's form of a date, leading zeros, the value of a number: walked. No condition.
-/
import Derived.Test.YtnmiiimbjojcmaaGreatDoorMra
import Derived.Test.YtnmiiimbjojcmaaGreatDoorXd
namespace Go.Proofs.YtnmiiimbjojcmaaGreatDoor
open Go.RowKit Go.Shelf

def dyK (i : Nat) (c : UInt8) : Bool := if i = 4 ∨ i = 7 then decide (c.toNat = 45) else dgQ c
theorem dayQ_allK {l : List UInt8} (h : 10 ≤ l.length) : dayQ l = true ↔ ∀ i, i < 10 → dyK i (l[i]?.getD 0) = true := by
  obtain ⟨c0, c1, c2, c3, c4, c5, c6, c7, c8, c9, t, rfl⟩ := ten h
  unfold dayQ
  simp only [Bool.and_eq_true, decide_eq_true_eq]
  constructor
  · rintro ⟨⟨⟨⟨⟨⟨⟨⟨⟨h0, h1⟩, h2⟩, h3⟩, h4⟩, h5⟩, h6⟩, h7⟩, h8⟩, h9⟩ i hi
    match i, hi with
    | 0, _ => exact h0
    | 1, _ => exact h1
    | 2, _ => exact h2
    | 3, _ => exact h3
    | 4, _ => exact decide_eq_true h4
    | 5, _ => exact h5
    | 6, _ => exact h6
    | 7, _ => exact decide_eq_true h7
    | 8, _ => exact h8
    | 9, _ => exact h9
  · intro h
    exact ⟨⟨⟨⟨⟨⟨⟨⟨⟨h 0 (by omega), h 1 (by omega)⟩, h 2 (by omega)⟩, h 3 (by omega)⟩, of_decide_eq_true (h 4 (by omega))⟩, h 5 (by omega)⟩, h 6 (by omega)⟩, of_decide_eq_true (h 7 (by omega))⟩, h 8 (by omega)⟩, h 9 (by omega)⟩
def DyR (s : ByteArray) (k : Nat) (v : Value) : Prop := ∃ j : Nat, j ≤ 10 ∧ v = .int .i64 (j : Int) ∧ Hid (∀ i, i < j → dyK i ((s.data.toList.drop k)[i]?.getD 0) = true)
theorem at_drop (s : ByteArray) (k j : Nat) (h : k + j < s.size) : (s.data.toList.drop k)[j]?.getD 0 = s[k + j] := by
  rw [List.getElem?_drop, List.getElem?_eq_getElem (by rw [data_len]; exact h)]; rfl
set_option maxHeartbeats 2000000 in
set_option maxRecDepth 100000 in
theorem dated_rf (s : ByteArray) (k : Nat) (w : World) (hs : s.size ≤ 100000) (hk : k ≤ s.size) : Calls Tryz.prog 29 #[.string s, .int .i64 (k : Int)] w (RetB w (dayQ (s.data.toList.drop k))) := by
  by_cases hlen : k + 10 ≤ s.size
  · have hl10 : 10 ≤ (s.data.toList.drop k).length := by rw [List.length_drop, data_len]; omega
    obtain ⟨R, hR⟩ : ∃ R, R = dayQ (s.data.toList.drop k) := ⟨_, rfl⟩
    rw [← hR]
    have HT : Hid ((∀ i, i < 10 → dyK i ((s.data.toList.drop k)[i]?.getD 0) = true) → R = true) := fun h => by rw [hR]; exact (dayQ_allK hl10).2 h
    have HF : Hid (∀ i, i < 10 → dyK i ((s.data.toList.drop k)[i]?.getD 0) = false → R = false) := fun i hi h => by
      rw [hR]
      cases hd : dayQ (s.data.toList.drop k) with
      | false => rfl
      | true => rw [(dayQ_allK hl10).1 hd i hi] at h; cases h
    clear hR hl10
    go_enter Tryz.func29, Tryz.ntmps29
    go_wp2_with fail
    go_loop [5] (fun v => DyR s k v) (fun v => 10 - (intOf v).toNat)
    case atStart => exact ⟨0, Nat.zero_le _, rfl, Lib.hid (fun i hi => absurd hi (Nat.not_lt_zero _))⟩
    case round =>
      obtain ⟨j, hj, rfl, HJ⟩ := hrel
      by_cases hlt : j < 10
      · have hkj : k + j < s.size := by omega
        have HAT := Lib.hid (at_drop s k j hkj)
        have HNX : Hid (dyK j s[k + j] = true → ∀ i, i < j + 1 → dyK i ((s.data.toList.drop k)[i]?.getD 0) = true) := fun h i hi => by
          by_cases e : i = j
          · subst e; rw [HAT.out]; exact h
          · exact HJ.out i (by omega)
        have HNO : Hid (dyK j s[k + j] = false → R = false) := fun h => HF.out j hlt (by rw [HAT.out]; exact h)
        have HD := Lib.hid (fun W => digit_rf s[k + j] W)
        by_cases h47 : j = 4 ∨ j = 7
        · have hdy : dyK j s[k + j] = decide (s[k + j].toNat = 45) := by unfold dyK; rw [if_pos h47]
          rw [hdy] at HNX HNO
          by_cases h45 : s[k + j].toNat = 45
          · rw [decide_eq_true h45] at HNX
            have t1 : ((s[k + j].toNat : Int) != 45) = false := by simp; omega
            have HX := Lib.hid (HNX.out rfl)
            clear h45 hdy HNX HNO HD HJ
            rcases h47 with rfl | rfl
            all_goals
              go_wp2_with fail
              go_round
              case rel => exact ⟨_, by omega, by go_num, HX⟩
              case measure => simp [intOf] <;> omega
          · rw [decide_eq_false h45] at HNO
            have t1 : ((s[k + j].toNat : Int) != 45) = true := by simp; omega
            have hRf := HNO.out rfl
            subst hRf
            clear h45 hdy HNX HNO HD HJ
            rcases h47 with rfl | rfl
            all_goals
              go_wp2_with fail
              go_ret
              exact ⟨rfl, rfl⟩
        · have hdy : dyK j s[k + j] = dgQ s[k + j] := by unfold dyK; rw [if_neg h47]
          rw [hdy] at HNX HNO
          have t4 : ((j : Int) == 4) = false := by simp; omega
          have t7 : ((j : Int) == 7) = false := by simp; omega
          have u4 : ((j : Int) != 4) = true := by simp; omega
          have u7 : ((j : Int) != 7) = true := by simp; omega
          cases hd : dgQ s[k + j] with
          | true =>
            rw [hd] at HD HNX
            have HX := Lib.hid (HNX.out rfl)
            clear hd hdy HNX HNO HJ h47
            go_wp2_with fail
            refine (HD.out _).mono ?_
            rintro e w' ⟨rfl, rfl⟩
            go_wp2_with fail
            go_round
            case rel => exact ⟨j + 1, by omega, by go_num, HX⟩
            case measure => simp [intOf] <;> omega
          | false =>
            rw [hd] at HD HNO
            have hRf := HNO.out rfl
            subst hRf
            clear hd hdy HNX HNO HJ h47
            go_wp2_with fail
            refine (HD.out _).mono ?_
            rintro e w' ⟨rfl, rfl⟩
            go_wp2_with fail
            go_ret
            exact ⟨rfl, rfl⟩
      · obtain rfl : j = 10 := by omega
        have hRt := HT.out HJ.out
        subst hRt
        clear HJ
        go_wp2_with fail
        go_ret
        exact ⟨rfl, rfl⟩
  · have e : dayQ (s.data.toList.drop k) = false := by
      cases hd : dayQ (s.data.toList.drop k) with
      | false => rfl
      | true => have := dayQ_len hd; rw [List.length_drop, data_len] at this; omega
    rw [e]
    clear e
    go_enter Tryz.func29, Tryz.ntmps29
    go_wp2_with fail
    go_ret
    exact ⟨rfl, rfl⟩

/-- Without leading zeros. -/
def trL : List UInt8 → List UInt8
  | c :: d :: l => if c = 48 then trL (d :: l) else c :: d :: l
  | l => l
theorem trL_is {l : List UInt8} (hl : l ≠ []) (hd : ∀ c ∈ l, dgQ c = true) : trL l = txtN (numV l) := by
  have dg : ∀ m : List UInt8, (∀ c ∈ m, dgQ c = true) → ∀ c ∈ m, 48 ≤ c.toNat ∧ c.toNat ≤ 57 := fun m h c hc => by
    have := h c hc; unfold dgQ at this; simpa using this
  induction l with
  | nil => exact absurd rfl hl
  | cons c l ih =>
    cases l with
    | nil =>
      have hc : CanN [c] := ⟨by simp, dg _ hd, fun _ => rfl⟩
      rw [numV_undig, txtN_undig _ hc]; rfl
    | cons d l =>
      by_cases h : c = 48
      · subst h
        rw [numV_zero]
        show (if (48 : UInt8) = 48 then trL (d :: l) else _) = _
        rw [if_pos rfl]
        exact ih (by simp) (fun x hx => hd x (List.mem_cons_of_mem _ hx))
      · have hc : CanN (c :: d :: l) := ⟨by simp, dg _ hd, fun e => by simp at e; exact absurd e h⟩
        rw [numV_undig, txtN_undig _ hc]
        show (if c = 48 then trL (d :: l) else c :: d :: l) = _
        rw [if_neg h]
def strLen (v : Value) : Nat := match v with | .string t => t.size | _ => 0
def TrR (F : List UInt8) (v : Value) : Prop := ∃ t : ByteArray, t.size ≤ 100000 ∧ v = .string t ∧ Hid (trL t.data.toList = F)
def StrP (w : World) (l : List UInt8) (e : Ending) (w' : World) : Prop := e = .returned (.string ⟨l.toArray⟩) ∧ w = w'
theorem bs_of {t : ByteArray} {l : List UInt8} (h : t.data.toList = l) : t = ⟨l.toArray⟩ := Go.WideShapes.bytes_inj h
set_option maxHeartbeats 1000000 in
theorem trim_rf (s : ByteArray) (w : World) (hs : s.size ≤ 100000) : Calls Tryz.prog 72 #[.string s] w (StrP w (trL s.data.toList)) := by
  obtain ⟨F, hF⟩ : ∃ F, F = trL s.data.toList := ⟨_, rfl⟩
  rw [← hF]
  have HF := Lib.hid hF.symm
  clear hF
  go_enter Tryz.func72, Tryz.ntmps72
  go_wp2_with fail
  go_loop [0] (fun v => TrR F v) (fun v => strLen v)
  case atStart => exact ⟨s, hs, rfl, HF⟩
  case round =>
    obtain ⟨t, ht, rfl, HT⟩ := hrel
    by_cases h1 : 1 < t.size
    · obtain ⟨c, d, l, hl⟩ : ∃ c d l, t.data.toList = c :: d :: l := by
        have := data_len t
        rcases e : t.data.toList with _ | ⟨c, _ | ⟨d, l⟩⟩
        · rw [e] at this; simp at this; omega
        · rw [e] at this; simp at this; omega
        · exact ⟨c, d, l, rfl⟩
      have hc : t[0] = c := by
        have := dropAt t 0 (by omega)
        rw [List.drop_zero, hl] at this
        injection this with a _; exact a.symm
      by_cases h48 : t[0].toNat = 48
      · have t1 : ((t[0].toNat : Int) == 48) = true := by simp; omega
        have HX : Hid (trL (t.extract 1 t.size).data.toList = F) := by
          rw [ext_list, hl, List.take_of_length_le (by simp; have := data_len t; rw [hl] at this; simp at this; omega)]
          have e := HT.out
          rw [hl] at e
          have c48 : c = 48 := by rw [← hc, ← UInt8.toNat_inj]; exact h48
          show trL (d :: l) = F
          rw [← e]
          show _ = if c = 48 then trL (d :: l) else _
          rw [if_pos c48]
        have hsz : (t.extract 1 t.size).size = t.size - 1 := by simp
        have HSZ := Lib.hid hsz
        clear hl hc h48 hsz HT
        go_wp2_with fail
        go_round
        case rel => exact ⟨_, by have := HSZ.out; omega, rfl, HX⟩
        case measure => show (t.extract 1 t.size).size < t.size; have := HSZ.out; omega
      · have t1 : ((t[0].toNat : Int) == 48) = false := by simp; omega
        have HX : Hid (t = ⟨F.toArray⟩) := bs_of (by
          have e := HT.out
          rw [hl] at e ⊢
          rw [← e]
          show _ = if c = 48 then trL (d :: l) else _
          rw [if_neg (fun h => h48 (by rw [hc, h]; rfl))])
        clear hl hc h48 HT
        go_wp2_with fail
        go_ret
        exact ⟨by rw [← HX.out]; rfl, rfl⟩
    · have HX : Hid (t = ⟨F.toArray⟩) := bs_of (by
        have e := HT.out
        have hl := data_len t
        rcases e2 : t.data.toList with _ | ⟨c, _ | ⟨d, l⟩⟩
        · rw [e2] at e; exact e
        · rw [e2] at e; exact e
        · rw [e2] at hl; simp at hl; omega)
      clear HT
      go_wp2_with fail
      go_ret
      exact ⟨by rw [← HX.out]; rfl, rfl⟩

end Go.Proofs.YtnmiiimbjojcmaaGreatDoor
