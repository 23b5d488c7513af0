/-
  The reference's Read at any text. Condition: at most 100,000 bytes.
-/
import Derived.Test.YtnikhbdjlipcbaaDoorYk
namespace Go.Proofs.YtnikhbdjlipcbaaDoor
open Go.RowKit Go.Shelf

theorem atR_next {s : ByteArray} {k : Nat} (h : k < s.size) (hn : s[k].toNat ≠ 32) (hk : (32 : UInt8) ∉ s.data.toList.take k) : AtR s.data.toList (.int .i64 ((k : Int) + 1)) := ⟨k + 1, by rw [data_len]; omega, rfl, by
  rw [data_take s k h]
  intro hm
  rcases List.mem_append.1 hm with hm | hm
  · exact hk hm
  · exact hn (by rw [← List.mem_singleton.1 hm]; rfl)⟩
theorem no_at {s : ByteArray} (hno : (32 : UInt8) ∉ s.data.toList) {k : Nat} (h : k < s.size) : s[k].toNat ≠ 32 := fun e => by
  have := data_mem s k h
  rw [show s[k] = 32 from UInt8.toNat_inj.1 e] at this
  exact hno this
theorem take_at {s : ByteArray} {K k : Nat} (hK : K < s.size) (hK32 : s[K].toNat = 32) (hk : (32 : UInt8) ∉ s.data.toList.take k) : k ≤ K := by
  refine Nat.le_of_not_lt fun hgt => hk ?_
  have : s.data.toList[K]? = some s[K] := Lib.data_getElem? s K hK
  rw [show s[K] = 32 from UInt8.toNat_inj.1 hK32, ← List.getElem?_take_of_lt hgt] at this
  exact List.mem_of_getElem? this
set_option maxHeartbeats 4000000 in
set_option maxRecDepth 100000 in
theorem rread_nosp (s : ByteArray) (w : World) (hs : s.size ≤ 100000) (hno : (32 : UInt8) ∉ s.data.toList) : Calls Tryd.prog 14 #[.string s] w (R3 w 0 ⟨#[]⟩ 12) := by
  have HST : Hid (AtR s.data.toList (.int .i64 0)) := ⟨0, Nat.zero_le _, rfl, by simp⟩
  have HNO := Lib.hid hno
  clear hno
  go_enter Tryd.func14, Tryd.ntmps14
  go_wp2_with fail
  go_loop [5] (AtR s.data.toList) (fun i => s.size - (intOf i).toNat)
  case atStart => exact HST.out
  case round =>
    obtain ⟨k, hk, rfl, hno⟩ := hrel
    rw [data_len] at hk
    by_cases hlt : k < s.size
    · have h32 := no_at HNO.out hlt
      have NX := Lib.hid (atR_next hlt h32 hno)
      clear hno HST HNO
      go_wp2_with fail
      go_round
      case rel => exact NX.out
      case measure => simp [intOf]; omega
    · obtain rfl : k = s.size := by omega
      clear hno HST HNO
      go_wp2_with fail
      go_ret3
      exact ⟨rfl, Below.refl _ _⟩
set_option maxHeartbeats 4000000 in
set_option maxRecDepth 100000 in
theorem rread_unit (s : ByteArray) (w : World) (hs : s.size ≤ 100000) (K : Nat) (hK : K < s.size) (hK32 : s[K].toNat = 32) (HNO : Hid (∀ j, (hj : j < s.size) → j < K → s[j].toNat ≠ 32))
    (HU : Hid (Ca 6 #[.string (s.extract (K + 1) s.size)] (.tuple #[.int .i64 0, .int .i64 2]))) : Calls Tryd.prog 14 #[.string s] w (R3 w 0 ⟨#[]⟩ 12) := by
  have HST : Hid (AtR s.data.toList (.int .i64 0)) := ⟨0, Nat.zero_le _, rfl, by simp⟩
  have HK := Lib.hid (fun k (hk : (32 : UInt8) ∉ s.data.toList.take k) => take_at hK hK32 hk)
  go_enter Tryd.func14, Tryd.ntmps14
  go_wp2_with fail
  go_loop [5] (AtR s.data.toList) (fun i => s.size - (intOf i).toNat)
  case atStart => exact HST.out
  case round =>
    obtain ⟨k, hk, rfl, hno⟩ := hrel
    rw [data_len] at hk
    have hkK := HK.out k hno
    by_cases hltK : k < K
    · have hlt : k < s.size := by omega
      have h32 := HNO.out k hlt hltK
      have NX := Lib.hid (atR_next hlt h32 hno)
      clear hno HST HNO HK
      go_wp2_with fail
      go_round
      case rel => exact NX.out
      case measure => simp [intOf]; omega
    · obtain rfl : k = K := by omega
      clear hno HST HNO HK hltK hkK
      go_wp2_with fail
      refine (HU.out _).mono ?_
      rintro e w1 ⟨rfl, b1⟩
      have B1 := Lib.hid b1
      clear b1
      go_wp2_with fail
      go_ret3
      exact ⟨rfl, B1.out⟩
set_option maxHeartbeats 4000000 in
set_option maxRecDepth 100000 in
theorem rread_front (s : ByteArray) (w : World) (hs : s.size ≤ 100000) (ui : Int) (hui0 : 0 ≤ ui) (hui3 : ui ≤ 3) (hK : 0 < s.size) (hK32 : s[0].toNat = 32)
    (HU : Hid (Ca 6 #[.string (s.extract 1 s.size)] (.tuple #[.int .i64 ui, .int .i64 0]))) : Calls Tryd.prog 14 #[.string s] w (R3 w 0 ⟨#[]⟩ 12) := by
  have HST : Hid (AtR s.data.toList (.int .i64 0)) := ⟨0, Nat.zero_le _, rfl, by simp⟩
  have HK := Lib.hid (fun k (hk : (32 : UInt8) ∉ s.data.toList.take k) => take_at hK hK32 hk)
  go_enter Tryd.func14, Tryd.ntmps14
  go_wp2_with fail
  go_loop [5] (AtR s.data.toList) (fun i => s.size - (intOf i).toNat)
  case atStart => exact HST.out
  case round =>
    obtain ⟨k, hk, rfl, hno⟩ := hrel
    rw [data_len] at hk
    have hkK := HK.out k hno
    obtain rfl : k = 0 := by omega
    clear hno HST HK hkK
    by_cases hu : 0 < ui
    · have k6 : decide ((0 : Int) < ui) = true := by simp; omega
      clear hu
      go_wp2_with fail
      refine (HU.out _).mono ?_
      rintro e w1 ⟨rfl, b1⟩
      have B1 := Lib.hid b1
      clear b1
      go_wp2_with fail
      go_ret3
      exact ⟨rfl, B1.out⟩
    · have k6 : decide ((0 : Int) < ui) = false := by simp; omega
      clear hu
      go_wp2_with fail
      refine (HU.out _).mono ?_
      rintro e w1 ⟨rfl, b1⟩
      have B1 := Lib.hid b1
      clear b1
      go_wp2_with fail
      go_ret3
      exact ⟨rfl, B1.out⟩

/-- Where the first blank lies. -/
theorem first_sp (s : ByteArray) : (32 : UInt8) ∉ s.data.toList ∨ ∃ K, ∃ h : K < s.size, s[K].toNat = 32 ∧ (∀ j, (hj : j < s.size) → j < K → s[j].toNat ≠ 32) ∧ upTo 32 s.data.toList = s.data.toList.take K ∧ past 32 s.data.toList = s.data.toList.drop (K + 1) := by
  by_cases hm : (32 : UInt8) ∈ s.data.toList
  · right
    obtain ⟨h1, h2⟩ := mem_split hm
    obtain ⟨K, hK⟩ : ∃ K, K = (upTo 32 s.data.toList).length := ⟨_, rfl⟩
    have hl : K < s.size := by
      have := congrArg List.length h1
      rw [List.length_append, List.length_cons, data_len, ← hK] at this
      omega
    have e1 : upTo 32 s.data.toList = s.data.toList.take K := by
      conv => rhs; rw [h1]
      rw [List.take_left' hK.symm]
    have e2 : past 32 s.data.toList = s.data.toList.drop (K + 1) := by
      conv => rhs; rw [h1]
      rw [List.drop_append, List.drop_of_length_le (by omega), ← hK, show K + 1 - K = 1 by omega]
      rfl
    refine ⟨K, hl, ?_, fun j hj hjK e => h2 ?_, e1, e2⟩
    · have a := Lib.data_getElem? s K hl
      rw [h1, List.getElem?_append_right (by omega), ← hK, Nat.sub_self] at a
      rw [← Option.some.inj a]; rfl
    · rw [e1]
      have a := Lib.data_getElem? s j hj
      rw [show s[j] = 32 from UInt8.toNat_inj.1 e, ← List.getElem?_take_of_lt hjK] at a
      exact List.mem_of_getElem? a
  · exact .inl hm

theorem rread_any (s : ByteArray) (w : World) (hs : s.size ≤ 100000) :
    Calls Tryd.prog 14 #[.string s] w (R3 w (readA unitOf s.data.toList).1 ⟨(readA unitOf s.data.toList).2.1.toArray⟩ (readA unitOf s.data.toList).2.2) := by
  rcases first_sp s with hno | ⟨K, hK, hK32, hlt, e1, e2⟩
  · have h0 : past 32 s.data.toList = [] := (upTo_no hno).2
    have hr : readA unitOf s.data.toList = (0, [], 12) := by
      unfold readA
      rw [h0, show unitOf [] = none by decide]
    rw [hr]
    exact rread_nosp s w hs hno
  · have HU := fun W => runit_any (s.extract (K + 1) s.size) W
    have ec : (s.extract (K + 1) s.size).data.toList = past 32 s.data.toList := by rw [ext_data, e2, List.take_of_length_le (by simp)]
    have ecc : (⟨(past 32 s.data.toList).toArray⟩ : ByteArray) = s.extract (K + 1) s.size := Go.WideShapes.bytes_inj ec.symm
    rw [ec] at HU
    cases hu : unitOf (past 32 s.data.toList) with
    | none =>
      rw [hu] at HU
      have hr : readA unitOf s.data.toList = (0, [], 12) := by unfold readA; rw [hu]
      rw [hr]
      exact rread_unit s w hs K hK hK32 (Lib.hid hlt) (Lib.hid fun V => HU V)
    | some u =>
      rw [hu] at HU
      have hu3 := unit_le hu
      have HUC : Hid (Ca 6 #[.string (s.extract (K + 1) s.size)] (.tuple #[.int .i64 (u : Int), .int .i64 0])) := fun V => HU V
      rw [readA_pre _ unitOf u hu]
      obtain ⟨num, hnum⟩ : ∃ num, num = upTo 32 s.data.toList := ⟨_, rfl⟩
      rw [← hnum]
      have hnl : num.length = K := by rw [hnum, e1, List.length_take, data_len]; omega
      have hnj : ∀ i, (hi : i < K) → num[i]? = some (s[i]'(Nat.lt_trans hi hK)) := fun i hi => by
        rw [hnum, e1, List.getElem?_take_of_lt hi]
        exact Lib.data_getElem? s i (by omega)
      rcases Nat.eq_zero_or_pos K with k0 | k0
      · subst k0
        have hn0 : num = [] := List.eq_nil_of_length_eq_zero hnl
        have hbad : figOK u (preD num) = false := fig_bad fun wl hw => by
          have h1 := hw.1
          have h2 := hw.2.1
          rw [hn0] at h1
          have : (preD ([] : List UInt8)).length = 0 := rfl
          rw [this] at h1
          omega
        rw [if_pos hbad]
        exact rread_front s w hs (u : Int) (by omega) (by omega) hK hK32 HUC
      · have hhead : num.head? = some (s[0]'(Nat.lt_trans k0 hK)) := by rw [List.head?_eq_getElem?]; exact hnj 0 k0
        rw [← ecc] at HUC
        by_cases hb : (s[0]'(Nat.lt_trans k0 hK)).toNat = 45
        · have hm : num.head? = some 45 := by rw [hhead]; exact congrArg some (UInt8.toNat_inj.1 hb)
          have hd : preD num = num.drop 1 := by unfold preD; rw [if_pos hm, List.drop_one]
          rw [decide_eq_true hm]
          obtain ⟨d, hdd⟩ : ∃ d, d = preD num := ⟨_, rfl⟩
          rw [← hdd]
          have hdl : d.length = K - 1 := by rw [hdd, hd, List.length_drop, hnl]
          have HD : Hid (∀ i, 1 ≤ i → (hi : i < K) → d[i - 1]? = some (s[i]'(Nat.lt_trans hi hK))) := fun i h1 hi => by
            rw [hdd, hd, List.getElem?_drop, show 1 + (i - 1) = i by omega]
            exact hnj i hi
          have A1 : Hid (figOK u d = false → (if figOK u d = false then ((0 : Int), ([] : List UInt8), (12 : Int)) else if figN d = 0 then (if true = true then (0, [], 12) else (0, past 32 s.data.toList, 0)) else if maxM < figN d then (0, [], 14) else (if true = true then -(figN d : Int) else (figN d : Int), past 32 s.data.toList, 0)) = (0, [], 12)) := fun h => if_pos h
          have A2 : Hid (figOK u d = true → figN d = 0 → (if figOK u d = false then ((0 : Int), ([] : List UInt8), (12 : Int)) else if figN d = 0 then (if true = true then (0, [], 12) else (0, past 32 s.data.toList, 0)) else if maxM < figN d then (0, [], 14) else (if true = true then -(figN d : Int) else (figN d : Int), past 32 s.data.toList, 0)) = (0, [], 12)) := fun h h0 => by rw [if_neg (by rw [h]; simp), if_pos h0, if_pos rfl]
          have A3 : Hid (∀ V, figN d = V → figOK u d = true → 0 < V → V ≤ 1125899906842624 → (if figOK u d = false then ((0 : Int), ([] : List UInt8), (12 : Int)) else if figN d = 0 then (if true = true then (0, [], 12) else (0, past 32 s.data.toList, 0)) else if maxM < figN d then (0, [], 14) else (if true = true then -(figN d : Int) else (figN d : Int), past 32 s.data.toList, 0)) = (-(V : Int), past 32 s.data.toList, 0)) := fun V hV h h0 h1 => by rw [if_neg (by rw [h]; simp), hV, if_neg (by omega), if_neg (by unfold maxM; omega), if_pos rfl]
          have A4 : Hid (figOK u d = true → 1125899906842624 < figN d → (if figOK u d = false then ((0 : Int), ([] : List UInt8), (12 : Int)) else if figN d = 0 then (if true = true then (0, [], 12) else (0, past 32 s.data.toList, 0)) else if maxM < figN d then (0, [], 14) else (if true = true then -(figN d : Int) else (figN d : Int), past 32 s.data.toList, 0)) = (0, [], 14)) := fun h h0 => by rw [if_neg (by rw [h]; simp), if_neg (by omega), if_pos (by unfold maxM; omega)]
          generalize (if figOK u d = false then ((0 : Int), ([] : List UInt8), (12 : Int)) else if figN d = 0 then (if true = true then (0, [], 12) else (0, past 32 s.data.toList, 0)) else if maxM < figN d then (0, [], 14) else (if true = true then -(figN d : Int) else (figN d : Int), past 32 s.data.toList, 0)) = R at A1 A2 A3 A4 ⊢
          rw [ecc] at HUC
          have B1 : Hid (figOK u d = false → R.1 = 0 ∧ (⟨R.2.1.toArray⟩ : ByteArray) = ⟨#[]⟩ ∧ R.2.2 = 12) := fun h => by rw [A1.out h]; exact ⟨rfl, rfl, rfl⟩
          have B2 : Hid (figOK u d = true → figN d = 0 → R.1 = 0 ∧ (⟨R.2.1.toArray⟩ : ByteArray) = ⟨#[]⟩ ∧ R.2.2 = 12) := fun h h0 => by rw [A2.out h h0]; exact ⟨rfl, rfl, rfl⟩
          have B3 : Hid (∀ V, figN d = V → figOK u d = true → 0 < V → V ≤ 1125899906842624 → R.1 = -(V : Int) ∧ (⟨R.2.1.toArray⟩ : ByteArray) = s.extract (K + 1) s.size ∧ R.2.2 = 0) := fun V a b c e => by rw [A3.out V a b c e]; exact ⟨rfl, ecc, rfl⟩
          have B4 : Hid (figOK u d = true → 1125899906842624 < figN d → R.1 = 0 ∧ (⟨R.2.1.toArray⟩ : ByteArray) = ⟨#[]⟩ ∧ R.2.2 = 14) := fun h h0 => by rw [A4.out h h0]; exact ⟨rfl, rfl, rfl⟩
          rcases Nat.eq_zero_or_pos u with u0 | u0
          · exact rread_1_zero s w hs _ _ _ K u d (u : Int) (by omega) (by omega) (Lib.hid rfl) hK hK32 (Lib.hid hlt) k0 HUC u0 hb hdl HD B1 B2 B3 B4
          · exact rread_1_more s w hs _ _ _ K u d (u : Int) (by omega) (by omega) (Lib.hid rfl) hK hK32 (Lib.hid hlt) k0 HUC u0 hb hdl HD B1 B2 B3 B4
        · have hm : ¬num.head? = some 45 := by rw [hhead]; intro h; exact hb (by rw [Option.some.inj h]; rfl)
          have hd : preD num = num := by unfold preD; rw [if_neg hm]
          rw [decide_eq_false hm, hd]
          have hdl : num.length = K - 0 := by rw [hnl]; rfl
          have HD : Hid (∀ i, 0 ≤ i → (hi : i < K) → num[i - 0]? = some (s[i]'(Nat.lt_trans hi hK))) := fun i h1 hi => hnj i hi
          obtain ⟨d, hdd⟩ : ∃ d, d = num := ⟨_, rfl⟩
          rw [← hdd] at hdl HD ⊢
          have A1 : Hid (figOK u d = false → (if figOK u d = false then ((0 : Int), ([] : List UInt8), (12 : Int)) else if figN d = 0 then (if false = true then (0, [], 12) else (0, past 32 s.data.toList, 0)) else if maxM < figN d then (0, [], 14) else (if false = true then -(figN d : Int) else (figN d : Int), past 32 s.data.toList, 0)) = (0, [], 12)) := fun h => if_pos h
          have A2 : Hid (figOK u d = true → figN d = 0 → (if figOK u d = false then ((0 : Int), ([] : List UInt8), (12 : Int)) else if figN d = 0 then (if false = true then (0, [], 12) else (0, past 32 s.data.toList, 0)) else if maxM < figN d then (0, [], 14) else (if false = true then -(figN d : Int) else (figN d : Int), past 32 s.data.toList, 0)) = (0, past 32 s.data.toList, 0)) := fun h h0 => by rw [if_neg (by rw [h]; simp), if_pos h0, if_neg (by simp)]
          have A3 : Hid (∀ V, figN d = V → figOK u d = true → 0 < V → V ≤ 1125899906842624 → (if figOK u d = false then ((0 : Int), ([] : List UInt8), (12 : Int)) else if figN d = 0 then (if false = true then (0, [], 12) else (0, past 32 s.data.toList, 0)) else if maxM < figN d then (0, [], 14) else (if false = true then -(figN d : Int) else (figN d : Int), past 32 s.data.toList, 0)) = ((V : Int), past 32 s.data.toList, 0)) := fun V hV h h0 h1 => by rw [if_neg (by rw [h]; simp), hV, if_neg (by omega), if_neg (by unfold maxM; omega), if_neg (by simp)]
          have A4 : Hid (figOK u d = true → 1125899906842624 < figN d → (if figOK u d = false then ((0 : Int), ([] : List UInt8), (12 : Int)) else if figN d = 0 then (if false = true then (0, [], 12) else (0, past 32 s.data.toList, 0)) else if maxM < figN d then (0, [], 14) else (if false = true then -(figN d : Int) else (figN d : Int), past 32 s.data.toList, 0)) = (0, [], 14)) := fun h h0 => by rw [if_neg (by rw [h]; simp), if_neg (by omega), if_pos (by unfold maxM; omega)]
          generalize (if figOK u d = false then ((0 : Int), ([] : List UInt8), (12 : Int)) else if figN d = 0 then (if false = true then (0, [], 12) else (0, past 32 s.data.toList, 0)) else if maxM < figN d then (0, [], 14) else (if false = true then -(figN d : Int) else (figN d : Int), past 32 s.data.toList, 0)) = R at A1 A2 A3 A4 ⊢
          rw [ecc] at HUC
          have B1 : Hid (figOK u d = false → R.1 = 0 ∧ (⟨R.2.1.toArray⟩ : ByteArray) = ⟨#[]⟩ ∧ R.2.2 = 12) := fun h => by rw [A1.out h]; exact ⟨rfl, rfl, rfl⟩
          have B2 : Hid (figOK u d = true → figN d = 0 → R.1 = 0 ∧ (⟨R.2.1.toArray⟩ : ByteArray) = s.extract (K + 1) s.size ∧ R.2.2 = 0) := fun h h0 => by rw [A2.out h h0]; exact ⟨rfl, ecc, rfl⟩
          have B3 : Hid (∀ V, figN d = V → figOK u d = true → 0 < V → V ≤ 1125899906842624 → R.1 = (V : Int) ∧ (⟨R.2.1.toArray⟩ : ByteArray) = s.extract (K + 1) s.size ∧ R.2.2 = 0) := fun V a b c e => by rw [A3.out V a b c e]; exact ⟨rfl, ecc, rfl⟩
          have B4 : Hid (figOK u d = true → 1125899906842624 < figN d → R.1 = 0 ∧ (⟨R.2.1.toArray⟩ : ByteArray) = ⟨#[]⟩ ∧ R.2.2 = 14) := fun h h0 => by rw [A4.out h h0]; exact ⟨rfl, rfl, rfl⟩
          rcases Nat.eq_zero_or_pos u with u0 | u0
          · exact rread_0_zero s w hs _ _ _ K u d (u : Int) (by omega) (by omega) (Lib.hid rfl) hK hK32 (Lib.hid hlt) k0 HUC u0 hb hdl HD B1 B2 B3 B4
          · exact rread_0_more s w hs _ _ _ K u d (u : Int) (by omega) (by omega) (Lib.hid rfl) hK hK32 (Lib.hid hlt) k0 HUC u0 hb hdl HD B1 B2 B3 B4

end Go.Proofs.YtnikhbdjlipcbaaDoor
