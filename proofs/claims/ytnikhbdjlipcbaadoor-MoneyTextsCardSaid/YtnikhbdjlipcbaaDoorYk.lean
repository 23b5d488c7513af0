/-
  The reference's Read of an amount's text. Condition: at most 100,000 bytes.
-/
import Derived.Test.YtnikhbdjlipcbaaDoorYj
namespace Go.Proofs.YtnikhbdjlipcbaaDoor
open Go.RowKit Go.Shelf

def AtR (l : List UInt8) (iv : Value) : Prop := ∃ k : Nat, k ≤ l.length ∧ iv = .int .i64 (k : Int) ∧ (32 : UInt8) ∉ l.take k
/-- The second loop: the number so far. -/
def AmR (b u wl k : Nat) (d : List UInt8) (nv bv iv : Value) : Prop := ∃ (i n : Nat) (big : Bool), nv = .int .i64 (n : Int) ∧ bv = .bool big ∧ iv = .int .i64 (i : Int) ∧ b ≤ i ∧ i ≤ k ∧ SatN (numL (digs u wl (d.take (i - b)))) n big ∧ ∀ p c, p < i - b → d[p]? = some c → okAt u wl p c
theorem fig_bad {u : Nat} {d : List UInt8} (h : ∀ wl, ¬figAt u wl d) : figOK u d = false := by
  cases hq : figOK u d with
  | false => rfl
  | true =>
    obtain ⟨wl, hw⟩ := fig_at hq
    exact absurd hw (h wl)
theorem okAt_next {u wl : Nat} {d : List UInt8} {j : Nat} {c : UInt8} (h : ∀ p x, p < j → d[p]? = some x → okAt u wl p x) (hc : d[j]? = some c) (hk : okAt u wl j c) : ∀ p x, p < j + 1 → d[p]? = some x → okAt u wl p x := fun p x hp hx => by
  by_cases e : p = j
  · subst e
    rw [hc] at hx
    rwa [← Option.some.inj hx]
  · exact h p x (by omega) hx
theorem sat_le {V n : Nat} {big : Bool} (h : SatN V n big) : n ≤ 1125899906842624 := by
  rcases h with ⟨_, h1, h2⟩ | ⟨_, h1, _⟩
  · unfold maxM at h2; omega
  · unfold maxM at h1; omega
set_option maxHeartbeats 16000000 in
set_option maxRecDepth 100000 in
theorem rread_0_zero (s : ByteArray) (w : World) (hs : s.size ≤ 100000) (rn re : Int) (rc : ByteArray) (K u : Nat) (d : List UInt8) (ui : Int) (_hui0 : 0 ≤ ui) (_hui3 : ui ≤ 3) (HUI : Hid (ui = (u : Int)))
    (hK : K < s.size) (hK32 : s[K].toNat = 32) (HNO : Hid (∀ j, (hj : j < s.size) → j < K → s[j].toNat ≠ 32)) (hKp : 0 < K)
    (HU : Hid (Ca 6 #[.string (s.extract (K + 1) s.size)] (.tuple #[.int .i64 ui, .int .i64 0])))
    (hu : u = 0) (hb : s[0].toNat ≠ 45) (hdl : d.length = K - 0) (HD : Hid (∀ i, 0 ≤ i → (hi : i < K) → d[i - 0]? = some (s[i]'(by omega))))
    (HBAD : Hid (figOK u d = false → rn = 0 ∧ rc = ⟨#[]⟩ ∧ re = 12))
    (HZERO : Hid (figOK u d = true → figN d = 0 → rn = 0 ∧ rc = s.extract (K + 1) s.size ∧ re = 0))
    (HVAL : Hid (∀ V, figN d = V → figOK u d = true → 0 < V → V ≤ 1125899906842624 → rn = (V : Int) ∧ rc = s.extract (K + 1) s.size ∧ re = 0))
    (HBIG : Hid (figOK u d = true → 1125899906842624 < figN d → rn = 0 ∧ rc = ⟨#[]⟩ ∧ re = 14)) :
    Calls Tryd.prog 14 #[.string s] w (R3 w rn rc re) := by
  have HST : Hid (AtR s.data.toList (.int .i64 0)) := ⟨0, Nat.zero_le _, rfl, by simp⟩
  have HNX : Hid (∀ k, (h : k < s.size) → s[k].toNat ≠ 32 → (32 : UInt8) ∉ s.data.toList.take k → AtR s.data.toList (.int .i64 ((k : Int) + 1))) := fun k h hn hk => ⟨k + 1, by rw [data_len]; omega, rfl, by
    rw [data_take s k h]
    intro hm
    rcases List.mem_append.1 hm with hm | hm
    · exact hk hm
    · exact hn (by rw [← List.mem_singleton.1 hm]; rfl)⟩
  have HKK : Hid (∀ k, (h : k < s.size) → (32 : UInt8) ∉ s.data.toList.take k → k < K ∨ k = K) := fun k h hk => by
    rcases Nat.lt_trichotomy k K with hlt | heq | hgt
    · exact .inl hlt
    · exact .inr heq
    · refine absurd ?_ hk
      have : s.data.toList[K]? = some s[K] := Lib.data_getElem? s K hK
      rw [show s[K] = 32 from UInt8.toNat_inj.1 hK32] at this
      rw [← List.getElem?_take_of_lt hgt] at this
      exact List.mem_of_getElem? this
  go_enter Tryd.func14, Tryd.ntmps14
  go_wp2_with fail
  go_loop [5] (AtR s.data.toList) (fun i => s.size - (intOf i).toNat)
  case atStart => exact HST.out
  case round =>
    obtain ⟨k, hk, rfl, hno⟩ := hrel
    rw [data_len] at hk
    have HNOK := Lib.hid hno
    clear hno
    by_cases hltK : k < K
    · have hlt : k < s.size := by omega
      have h32 := HNO.out k hlt hltK
      have NX := Lib.hid (HNX.out k hlt h32 HNOK.out)
      clear HNX HNO HKK
      go_wp2_with fail
      go_round
      case rel => exact NX.out
      case measure => simp [intOf]; omega
    · obtain rfl : k = K := by
        by_cases hlt : k < s.size
        · rcases HKK.out k hlt HNOK.out with h | h
          · exact absurd h hltK
          · exact h
        · exfalso
          obtain rfl : k = s.size := by omega
          have hm : s.data.toList[K]? = some 32 := by
            have := Lib.data_getElem? s K hK
            rwa [show s[K] = 32 from UInt8.toNat_inj.1 hK32] at this
          have : (32 : UInt8) ∈ s.data.toList.take s.size := by
            rw [List.take_of_length_le (by rw [data_len]; exact Nat.le_refl _)]
            exact List.mem_of_getElem? hm
          exact HNOK.out this
      clear HNX HNO HKK HNOK hltK
      have k6 : decide ((0 : Int) < ui) = false := by have := HUI.out; simp; omega
      have kb : ((s[0].toNat : Int) == 45) = false := by simp; omega
      have HU0 := Lib.hid hu
      clear hu
      go_wp2_with fail
      refine (HU.out _).mono ?_
      rintro e w1 ⟨rfl, b1⟩
      have B1 := Lib.hid b1
      clear b1
      go_upto_region 16 with (fail)
      obtain ⟨wl, hwk⟩ : ∃ wl, wl = k := ⟨_, rfl⟩
      have hw1' : 1 ≤ wl := by omega
      have kk1 : decide ((k : Int) < 1) = false := by simp; omega
      have HWK := Lib.hid hwk
      have hb1 : 0 < s.size := by omega
      have hwlb : wl ≤ 100000 := by omega
      clear hwk
      have hd0 : d.head? = some (s[0]'hb1) := by
        rw [List.head?_eq_getElem?]
        have := HD.out 0 (Nat.le_refl _) (by have := HWK.out; omega)
        rwa [show 0 - 0 = 0 by omega] at this
      have HD0 := Lib.hid hd0
      clear hd0
      by_cases hz : 1 < wl ∧ (s[0]'hb1).toNat = 48
      · have hwk := HWK.out
        obtain ⟨r1, r2, r3⟩ := HBAD.out (fig_bad fun wl' hw => by
          have h1 := hw.1
          rw [if_pos HU0.out] at h1
          refine hw.2.2.1 ⟨by omega, ?_⟩
          rw [HD0.out]
          exact congrArg some (UInt8.toNat_inj.1 hz.2))
        have RR := Lib.hid (And.intro r1 (And.intro r2 r3))
        obtain ⟨hz1, hz2⟩ := hz
        have k48 : (((s[0]'hb1).toNat : Int) == 48) = true := by rw [hz2]; rfl
        have kgt : decide ((1 : Int) < (k : Int)) = true := by simp; omega
        clear r1 r2 r3 HZERO HBIG HVAL HBAD hwk
        go_wp2_with fail
        go_ret3
        exact ⟨ret_three RR.out.1.symm RR.out.2.1.symm RR.out.2.2.symm, B1.out⟩
      have HZ : Hid (¬(1 < wl ∧ d.head? = some 48)) := fun ⟨h1, h2⟩ => by
        rw [HD0.out] at h2
        exact hz ⟨h1, by rw [Option.some.inj h2]; rfl⟩
      go_upto_region 16 with (fail)
      go_cut [68] (fun s68 wx => s68 = .bool false ∧ w1 = wx)
      case first =>
        have hwk := HWK.out
        by_cases hz1 : 1 < wl
        · have kgt : decide ((1 : Int) < (k : Int)) = true := by simp; omega
          have k48 : (((s[0]'hb1).toNat : Int) == 48) = false := by
            have : (s[0]'hb1).toNat ≠ 48 := fun h => hz ⟨hz1, h⟩
            simp; omega
          clear hz hwk
          go_wp2_with fail
          go_meet
          exact ⟨rfl, rfl⟩
        · have kgt : decide ((1 : Int) < (k : Int)) = false := by simp; omega
          clear hz hwk
          go_wp2_with fail
          go_meet
          exact ⟨rfl, rfl⟩
      case rest =>
      obtain ⟨rfl, rfl⟩ := hcut
      clear hz
      have HSTA : Hid (AmR 0 u wl k d (.int .i64 0) (.bool false) (.int .i64 0)) := ⟨0, 0, false, rfl, rfl, rfl, Nat.le_refl _, by omega, by rw [show 0 - 0 = 0 by omega, List.take_zero, show numL (digs u wl []) = 0 by unfold digs; split <;> simp [numL]]; exact .inl ⟨rfl, rfl, by unfold maxM; omega⟩, fun p c hp => by omega⟩
      have hwk := HWK.out
      have HEND : Hid (∀ n big, SatN (numL (digs u wl (d.take (k - 0)))) n big → (∀ p c, p < k - 0 → d[p]? = some c → okAt u wl p c) → figOK u d = true ∧ SatN (figN d) n big) := fun n big hs ha => by
        have ht : d.take (k - 0) = d := List.take_of_length_le (by omega)
        rw [ht] at hs
        have hf : figAt u wl d := ⟨by rw [if_pos HU0.out]; omega, by omega, HZ.out, fun p c hc => ha p c (by have := (List.getElem?_eq_some_iff.1 hc).1; omega) hc⟩
        obtain ⟨h1, h2⟩ := fig_num hf
        refine ⟨h1, ?_⟩
        unfold figN
        rw [h2]; exact hs
      have HBADK : Hid (∀ j c, d[j]? = some c → ¬okAt u wl j c → figOK u d = false) := fun j c hc hn => fig_bad fun wl' hw => by
        have h1 := hw.1
        rw [if_pos HU0.out] at h1
        obtain rfl : wl' = wl := by omega
        exact hn (hw.2.2.2 j c hc)
      clear HST HU hwk
      go_wp2_with fail
      go_loop [11, 12, 13] (AmR 0 u wl k d) (fun _ _ i => k - (intOf i).toNat)
      case atStart => exact HSTA.out
      case round =>
        obtain ⟨i, n, big, rfl, rfl, rfl, hbi, hik, hsat, hok⟩ := hrel
        have hnM := sat_le hsat
        have HSAT := Lib.hid hsat
        have HOKP := Lib.hid hok
        clear hsat hok HSTA
        by_cases hit : i < k
        · have his : i < s.size := by omega
          have hdi : d[i - 0]? = some s[i] := HD.out i hbi hit
          have HDI := Lib.hid hdi
          have es : i + 1 - 0 = (i - 0) + 1 := by omega
          have HES := Lib.hid es
          clear hdi es
          have hdg : okAt u wl (i - 0) s[i] ↔ isDig s[i] = true := by unfold okAt; rw [if_neg (by have := HU0.out; omega)]
          have hnp : ¬(0 < u ∧ i - 0 = wl) := by have := HU0.out; omega
          by_cases c1 : s[i].toNat < 48
          · obtain ⟨r1, r2, r3⟩ := HBAD.out (HBADK.out _ _ HDI.out (fun hq => by have := isDig_iff.1 (hdg.1 hq); omega))
            have RR := Lib.hid (And.intro r1 (And.intro r2 r3))
            clear hdg hnp r1 r2 r3
            go_wp2_with fail
            go_ret3
            exact ⟨ret_three RR.out.1.symm RR.out.2.1.symm RR.out.2.2.symm, B1.out⟩
          · by_cases c2 : 57 < s[i].toNat
            · obtain ⟨r1, r2, r3⟩ := HBAD.out (HBADK.out _ _ HDI.out (fun hq => by have := isDig_iff.1 (hdg.1 hq); omega))
              have RR := Lib.hid (And.intro r1 (And.intro r2 r3))
              clear hdg hnp r1 r2 r3
              go_wp2_with fail
              go_ret3
              exact ⟨ret_three RR.out.1.symm RR.out.2.1.symm RR.out.2.2.symm, B1.out⟩
            · have hokd : okAt u wl (i - 0) s[i] := hdg.2 (isDig_iff.2 ⟨by omega, by omega⟩)
              have HN1 : Hid (∀ n' big', SatN (10 * numL (digs u wl (d.take (i - 0))) + (s[i].toNat - 48)) n' big' → ∀ q : Int, q = (n' : Int) → AmR 0 u wl k d (.int .i64 q) (.bool big') (.int .i64 ((i : Int) + 1))) := fun n' big' hs q hq => ⟨i + 1, n', big', by rw [hq], rfl, rfl, by omega, by omega, by rw [HES.out, digs_dig HDI.out hnp, numL_snoc]; exact hs, by rw [HES.out]; exact okAt_next HOKP.out HDI.out hokd⟩
              by_cases hM : 1125899906842624 < 10 * n + (s[i].toNat - 48)
              · have NX := Lib.hid (HN1.out 1125899906842624 true (sat_more HSAT.out _ (by unfold maxM; exact hM)) 1125899906842624 rfl)
                clear HN1 hokd hdg hnp
                go_wp2_with fail
                go_round
                case rel => exact NX.out
                case measure => simp [intOf]; omega
              · have NX := Lib.hid (HN1.out (10 * n + (s[i].toNat - 48)) big (sat_less HSAT.out _ (by unfold maxM; exact hM)) (10 * (n : Int) + (s[i].toNat : Int) - 48) (by omega))
                clear HN1 hokd hdg hnp
                go_wp2_with fail
                go_round
                case rel => exact NX.out
                case measure => simp [intOf]; omega
        · obtain rfl : i = k := by omega
          obtain ⟨hfo, hfs⟩ := HEND.out n big HSAT.out HOKP.out
          obtain ⟨V, hV⟩ : ∃ V, V = figN d := ⟨_, rfl⟩
          rw [← hV] at hfs
          rcases hfs with ⟨rfl, rfl, hle⟩ | ⟨rfl, rfl, hgt⟩
          · unfold maxM at hle
            rcases Nat.eq_zero_or_pos n with hn0 | hn0
            · have k0 : ((n : Int) == 0) = true := by rw [hn0]; rfl
              obtain ⟨r1, r2, r3⟩ := HZERO.out hfo (by omega)
              have RR := Lib.hid (And.intro r1 (And.intro r2 r3))
              clear r1 r2 r3 hV hfo HEND HBADK HSAT HOKP HZERO HBIG HVAL HBAD
              go_wp2_with fail
              go_ret3
              exact ⟨ret_three RR.out.1.symm RR.out.2.1.symm RR.out.2.2.symm, B1.out⟩
            · have k0 : ((n : Int) == 0) = false := by simp; omega
              obtain ⟨r1, r2, r3⟩ := HVAL.out n hV.symm hfo hn0 hle
              have RR := Lib.hid (And.intro r1 (And.intro r2 r3))
              clear r1 r2 r3 hV hfo HEND HBADK HSAT HOKP HZERO HBIG HVAL HBAD
              go_wp2_with fail
              go_ret3
              exact ⟨ret_three RR.out.1.symm RR.out.2.1.symm RR.out.2.2.symm, B1.out⟩
          · unfold maxM at hgt
            obtain ⟨r1, r2, r3⟩ := HBIG.out hfo (by omega)
            have RR := Lib.hid (And.intro r1 (And.intro r2 r3))
            clear r1 r2 r3 hV hfo HEND HBADK HSAT HOKP HZERO HBIG HVAL HBAD
            go_wp2_with fail
            go_ret3
            exact ⟨ret_three RR.out.1.symm RR.out.2.1.symm RR.out.2.2.symm, B1.out⟩
set_option maxHeartbeats 16000000 in
set_option maxRecDepth 100000 in
theorem rread_0_more (s : ByteArray) (w : World) (hs : s.size ≤ 100000) (rn re : Int) (rc : ByteArray) (K u : Nat) (d : List UInt8) (ui : Int) (hui0 : 0 ≤ ui) (hui3 : ui ≤ 3) (HUI : Hid (ui = (u : Int)))
    (hK : K < s.size) (hK32 : s[K].toNat = 32) (HNO : Hid (∀ j, (hj : j < s.size) → j < K → s[j].toNat ≠ 32)) (hKp : 0 < K)
    (HU : Hid (Ca 6 #[.string (s.extract (K + 1) s.size)] (.tuple #[.int .i64 ui, .int .i64 0])))
    (hu : 0 < u) (hb : s[0].toNat ≠ 45) (hdl : d.length = K - 0) (HD : Hid (∀ i, 0 ≤ i → (hi : i < K) → d[i - 0]? = some (s[i]'(by omega))))
    (HBAD : Hid (figOK u d = false → rn = 0 ∧ rc = ⟨#[]⟩ ∧ re = 12))
    (HZERO : Hid (figOK u d = true → figN d = 0 → rn = 0 ∧ rc = s.extract (K + 1) s.size ∧ re = 0))
    (HVAL : Hid (∀ V, figN d = V → figOK u d = true → 0 < V → V ≤ 1125899906842624 → rn = (V : Int) ∧ rc = s.extract (K + 1) s.size ∧ re = 0))
    (HBIG : Hid (figOK u d = true → 1125899906842624 < figN d → rn = 0 ∧ rc = ⟨#[]⟩ ∧ re = 14)) :
    Calls Tryd.prog 14 #[.string s] w (R3 w rn rc re) := by
  have HST : Hid (AtR s.data.toList (.int .i64 0)) := ⟨0, Nat.zero_le _, rfl, by simp⟩
  have HNX : Hid (∀ k, (h : k < s.size) → s[k].toNat ≠ 32 → (32 : UInt8) ∉ s.data.toList.take k → AtR s.data.toList (.int .i64 ((k : Int) + 1))) := fun k h hn hk => ⟨k + 1, by rw [data_len]; omega, rfl, by
    rw [data_take s k h]
    intro hm
    rcases List.mem_append.1 hm with hm | hm
    · exact hk hm
    · exact hn (by rw [← List.mem_singleton.1 hm]; rfl)⟩
  have HKK : Hid (∀ k, (h : k < s.size) → (32 : UInt8) ∉ s.data.toList.take k → k < K ∨ k = K) := fun k h hk => by
    rcases Nat.lt_trichotomy k K with hlt | heq | hgt
    · exact .inl hlt
    · exact .inr heq
    · refine absurd ?_ hk
      have : s.data.toList[K]? = some s[K] := Lib.data_getElem? s K hK
      rw [show s[K] = 32 from UInt8.toNat_inj.1 hK32] at this
      rw [← List.getElem?_take_of_lt hgt] at this
      exact List.mem_of_getElem? this
  go_enter Tryd.func14, Tryd.ntmps14
  go_wp2_with fail
  go_loop [5] (AtR s.data.toList) (fun i => s.size - (intOf i).toNat)
  case atStart => exact HST.out
  case round =>
    obtain ⟨k, hk, rfl, hno⟩ := hrel
    rw [data_len] at hk
    have HNOK := Lib.hid hno
    clear hno
    by_cases hltK : k < K
    · have hlt : k < s.size := by omega
      have h32 := HNO.out k hlt hltK
      have NX := Lib.hid (HNX.out k hlt h32 HNOK.out)
      clear HNX HNO HKK
      go_wp2_with fail
      go_round
      case rel => exact NX.out
      case measure => simp [intOf]; omega
    · obtain rfl : k = K := by
        by_cases hlt : k < s.size
        · rcases HKK.out k hlt HNOK.out with h | h
          · exact absurd h hltK
          · exact h
        · exfalso
          obtain rfl : k = s.size := by omega
          have hm : s.data.toList[K]? = some 32 := by
            have := Lib.data_getElem? s K hK
            rwa [show s[K] = 32 from UInt8.toNat_inj.1 hK32] at this
          have : (32 : UInt8) ∈ s.data.toList.take s.size := by
            rw [List.take_of_length_le (by rw [data_len]; exact Nat.le_refl _)]
            exact List.mem_of_getElem? hm
          exact HNOK.out this
      clear HNX HNO HKK HNOK hltK
      have k6 : decide ((0 : Int) < ui) = true := by have := HUI.out; simp; omega
      have kb : ((s[0].toNat : Int) == 45) = false := by simp; omega
      have HUP := Lib.hid hu
      
      go_wp2_with fail
      refine (HU.out _).mono ?_
      rintro e w1 ⟨rfl, b1⟩
      have B1 := Lib.hid b1
      clear b1
      go_upto_region 16 with (fail)
      obtain ⟨wi, hwi⟩ : ∃ wi : Int, wi = (k : Int) - ui - 1 := ⟨_, rfl⟩
      rw [← hwi]
      have HWI : Hid (wi = (k : Int) - 0 - ((u : Int) + 1)) := by have := HUI.out; show wi = _; omega
      clear hwi
      by_cases hw1 : wi < 1
      · obtain ⟨r1, r2, r3⟩ := HBAD.out (fig_bad fun wl' hw => by
          have h1 := hw.1
          have h2 := hw.2.1
          rw [if_neg (by omega : ¬u = 0)] at h1
          have := HWI.out
          omega)
        have RR := Lib.hid (And.intro r1 (And.intro r2 r3))
        clear r1 r2 r3 HZERO HBIG HVAL HBAD
        go_wp2_with fail
        go_ret3
        exact ⟨ret_three RR.out.1.symm RR.out.2.1.symm RR.out.2.2.symm, B1.out⟩
      obtain ⟨wl, rfl⟩ : ∃ wl : Nat, wi = (wl : Int) := ⟨wi.toNat, by omega⟩
      have hwk : k = wl + 0 + (u + 1) := by have := HWI.out; omega
      have hw1' : 1 ≤ wl := by omega
      have kk1 : decide ((wl : Int) < 1) = false := by simp; omega
      have HWK := Lib.hid hwk
      clear hw1 HWI
      have hb1 : 0 < s.size := by omega
      have hwlb : wl ≤ 100000 := by omega
      clear hwk
      have hd0 : d.head? = some (s[0]'hb1) := by
        rw [List.head?_eq_getElem?]
        have := HD.out 0 (Nat.le_refl _) (by have := HWK.out; omega)
        rwa [show 0 - 0 = 0 by omega] at this
      have HD0 := Lib.hid hd0
      clear hd0
      by_cases hz : 1 < wl ∧ (s[0]'hb1).toNat = 48
      · have hwk := HWK.out
        obtain ⟨r1, r2, r3⟩ := HBAD.out (fig_bad fun wl' hw => by
          have h1 := hw.1
          rw [if_neg (by omega : ¬u = 0)] at h1
          refine hw.2.2.1 ⟨by omega, ?_⟩
          rw [HD0.out]
          exact congrArg some (UInt8.toNat_inj.1 hz.2))
        have RR := Lib.hid (And.intro r1 (And.intro r2 r3))
        obtain ⟨hz1, hz2⟩ := hz
        have k48 : (((s[0]'hb1).toNat : Int) == 48) = true := by rw [hz2]; rfl
        have kgt : decide ((1 : Int) < (wl : Int)) = true := by simp; omega
        clear r1 r2 r3 HZERO HBIG HVAL HBAD hwk
        go_wp2_with fail
        go_ret3
        exact ⟨ret_three RR.out.1.symm RR.out.2.1.symm RR.out.2.2.symm, B1.out⟩
      have HZ : Hid (¬(1 < wl ∧ d.head? = some 48)) := fun ⟨h1, h2⟩ => by
        rw [HD0.out] at h2
        exact hz ⟨h1, by rw [Option.some.inj h2]; rfl⟩
      go_upto_region 16 with (fail)
      go_cut [68] (fun s68 wx => s68 = .bool false ∧ w1 = wx)
      case first =>
        have hwk := HWK.out
        by_cases hz1 : 1 < wl
        · have kgt : decide ((1 : Int) < (wl : Int)) = true := by simp; omega
          have k48 : (((s[0]'hb1).toNat : Int) == 48) = false := by
            have : (s[0]'hb1).toNat ≠ 48 := fun h => hz ⟨hz1, h⟩
            simp; omega
          clear hz hwk
          go_wp2_with fail
          go_meet
          exact ⟨rfl, rfl⟩
        · have kgt : decide ((1 : Int) < (wl : Int)) = false := by simp; omega
          clear hz hwk
          go_wp2_with fail
          go_meet
          exact ⟨rfl, rfl⟩
      case rest =>
      obtain ⟨rfl, rfl⟩ := hcut
      clear hz
      have HSTA : Hid (AmR 0 u wl k d (.int .i64 0) (.bool false) (.int .i64 0)) := ⟨0, 0, false, rfl, rfl, rfl, Nat.le_refl _, by omega, by rw [show 0 - 0 = 0 by omega, List.take_zero, show numL (digs u wl []) = 0 by unfold digs; split <;> simp [numL]]; exact .inl ⟨rfl, rfl, by unfold maxM; omega⟩, fun p c hp => by omega⟩
      have hwk := HWK.out
      have HEND : Hid (∀ n big, SatN (numL (digs u wl (d.take (k - 0)))) n big → (∀ p c, p < k - 0 → d[p]? = some c → okAt u wl p c) → figOK u d = true ∧ SatN (figN d) n big) := fun n big hs ha => by
        have ht : d.take (k - 0) = d := List.take_of_length_le (by omega)
        rw [ht] at hs
        have hf : figAt u wl d := ⟨by rw [if_neg (by omega)]; omega, by omega, HZ.out, fun p c hc => ha p c (by have := (List.getElem?_eq_some_iff.1 hc).1; omega) hc⟩
        obtain ⟨h1, h2⟩ := fig_num hf
        refine ⟨h1, ?_⟩
        unfold figN
        rw [h2]; exact hs
      have HBADK : Hid (∀ j c, d[j]? = some c → ¬okAt u wl j c → figOK u d = false) := fun j c hc hn => fig_bad fun wl' hw => by
        have h1 := hw.1
        rw [if_neg (by omega : ¬u = 0)] at h1
        obtain rfl : wl' = wl := by omega
        exact hn (hw.2.2.2 j c hc)
      clear HST HU hwk
      go_wp2_with fail
      go_loop [11, 12, 13] (AmR 0 u wl k d) (fun _ _ i => k - (intOf i).toNat)
      case atStart => exact HSTA.out
      case round =>
        obtain ⟨i, n, big, rfl, rfl, rfl, hbi, hik, hsat, hok⟩ := hrel
        have hnM := sat_le hsat
        have HSAT := Lib.hid hsat
        have HOKP := Lib.hid hok
        clear hsat hok HSTA
        by_cases hit : i < k
        · have his : i < s.size := by omega
          have hdi : d[i - 0]? = some s[i] := HD.out i hbi hit
          have HDI := Lib.hid hdi
          have es : i + 1 - 0 = (i - 0) + 1 := by omega
          have HES := Lib.hid es
          clear hdi es
          have hwk := Lib.hid HWK.out
          by_cases hpt : i = 0 + wl
          · obtain rfl : i = wl := by omega
            clear hpt
            have hok46 : s[i].toNat = 46 → okAt u i (i - 0) s[i] := fun h => by unfold okAt; rw [if_pos ⟨by omega, by omega⟩]; exact UInt8.toNat_inj.1 h
            have hno46 : s[i].toNat ≠ 46 → ¬okAt u i (i - 0) s[i] := fun h hq => by unfold okAt at hq; rw [if_pos ⟨by omega, by omega⟩] at hq; exact h (by rw [hq]; rfl)
            by_cases h46 : s[i].toNat = 46
            · have NX : Hid (AmR 0 u i k d (.int .i64 (n : Int)) (.bool big) (.int .i64 (((i : Nat) : Int) + 1))) := ⟨i + 1, n, big, rfl, rfl, rfl, by omega, by omega, by rw [HES.out, digs_pt HDI.out ⟨by omega, by omega⟩]; exact HSAT.out, by rw [HES.out]; exact okAt_next HOKP.out HDI.out (hok46 h46)⟩
              clear hok46 hno46
              go_wp2_with fail
              go_round
              case rel => exact NX.out
              case measure => simp [intOf]; omega
            · obtain ⟨r1, r2, r3⟩ := HBAD.out (HBADK.out _ _ HDI.out (hno46 h46))
              have RR := Lib.hid (And.intro r1 (And.intro r2 r3))
              clear hok46 hno46 r1 r2 r3
              go_wp2_with fail
              go_ret3
              exact ⟨ret_three RR.out.1.symm RR.out.2.1.symm RR.out.2.2.symm, B1.out⟩
          have e82 : ((i : Int) == (wl : Int)) = false := by simp; omega
          have hdg : okAt u wl (i - 0) s[i] ↔ isDig s[i] = true := by unfold okAt; rw [if_neg (by omega)]
          have hnp : ¬(0 < u ∧ i - 0 = wl) := by omega
          by_cases c1 : s[i].toNat < 48
          · obtain ⟨r1, r2, r3⟩ := HBAD.out (HBADK.out _ _ HDI.out (fun hq => by have := isDig_iff.1 (hdg.1 hq); omega))
            have RR := Lib.hid (And.intro r1 (And.intro r2 r3))
            clear hdg hnp r1 r2 r3 hpt
            go_wp2_with fail
            go_ret3
            exact ⟨ret_three RR.out.1.symm RR.out.2.1.symm RR.out.2.2.symm, B1.out⟩
          · by_cases c2 : 57 < s[i].toNat
            · obtain ⟨r1, r2, r3⟩ := HBAD.out (HBADK.out _ _ HDI.out (fun hq => by have := isDig_iff.1 (hdg.1 hq); omega))
              have RR := Lib.hid (And.intro r1 (And.intro r2 r3))
              clear hdg hnp r1 r2 r3 hpt
              go_wp2_with fail
              go_ret3
              exact ⟨ret_three RR.out.1.symm RR.out.2.1.symm RR.out.2.2.symm, B1.out⟩
            · have hokd : okAt u wl (i - 0) s[i] := hdg.2 (isDig_iff.2 ⟨by omega, by omega⟩)
              have HN1 : Hid (∀ n' big', SatN (10 * numL (digs u wl (d.take (i - 0))) + (s[i].toNat - 48)) n' big' → ∀ q : Int, q = (n' : Int) → AmR 0 u wl k d (.int .i64 q) (.bool big') (.int .i64 ((i : Int) + 1))) := fun n' big' hs q hq => ⟨i + 1, n', big', by rw [hq], rfl, rfl, by omega, by omega, by rw [HES.out, digs_dig HDI.out hnp, numL_snoc]; exact hs, by rw [HES.out]; exact okAt_next HOKP.out HDI.out hokd⟩
              by_cases hM : 1125899906842624 < 10 * n + (s[i].toNat - 48)
              · have NX := Lib.hid (HN1.out 1125899906842624 true (sat_more HSAT.out _ (by unfold maxM; exact hM)) 1125899906842624 rfl)
                clear HN1 hokd hdg hnp hpt
                go_wp2_with fail
                go_round
                case rel => exact NX.out
                case measure => simp [intOf]; omega
              · have NX := Lib.hid (HN1.out (10 * n + (s[i].toNat - 48)) big (sat_less HSAT.out _ (by unfold maxM; exact hM)) (10 * (n : Int) + (s[i].toNat : Int) - 48) (by omega))
                clear HN1 hokd hdg hnp hpt
                go_wp2_with fail
                go_round
                case rel => exact NX.out
                case measure => simp [intOf]; omega
        · obtain rfl : i = k := by omega
          obtain ⟨hfo, hfs⟩ := HEND.out n big HSAT.out HOKP.out
          obtain ⟨V, hV⟩ : ∃ V, V = figN d := ⟨_, rfl⟩
          rw [← hV] at hfs
          rcases hfs with ⟨rfl, rfl, hle⟩ | ⟨rfl, rfl, hgt⟩
          · unfold maxM at hle
            rcases Nat.eq_zero_or_pos n with hn0 | hn0
            · have k0 : ((n : Int) == 0) = true := by rw [hn0]; rfl
              obtain ⟨r1, r2, r3⟩ := HZERO.out hfo (by omega)
              have RR := Lib.hid (And.intro r1 (And.intro r2 r3))
              clear r1 r2 r3 hV hfo HEND HBADK HSAT HOKP HZERO HBIG HVAL HBAD
              go_wp2_with fail
              go_ret3
              exact ⟨ret_three RR.out.1.symm RR.out.2.1.symm RR.out.2.2.symm, B1.out⟩
            · have k0 : ((n : Int) == 0) = false := by simp; omega
              obtain ⟨r1, r2, r3⟩ := HVAL.out n hV.symm hfo hn0 hle
              have RR := Lib.hid (And.intro r1 (And.intro r2 r3))
              clear r1 r2 r3 hV hfo HEND HBADK HSAT HOKP HZERO HBIG HVAL HBAD
              go_wp2_with fail
              go_ret3
              exact ⟨ret_three RR.out.1.symm RR.out.2.1.symm RR.out.2.2.symm, B1.out⟩
          · unfold maxM at hgt
            obtain ⟨r1, r2, r3⟩ := HBIG.out hfo (by omega)
            have RR := Lib.hid (And.intro r1 (And.intro r2 r3))
            clear r1 r2 r3 hV hfo HEND HBADK HSAT HOKP HZERO HBIG HVAL HBAD
            go_wp2_with fail
            go_ret3
            exact ⟨ret_three RR.out.1.symm RR.out.2.1.symm RR.out.2.2.symm, B1.out⟩
set_option maxHeartbeats 16000000 in
set_option maxRecDepth 100000 in
theorem rread_1_zero (s : ByteArray) (w : World) (hs : s.size ≤ 100000) (rn re : Int) (rc : ByteArray) (K u : Nat) (d : List UInt8) (ui : Int) (_hui0 : 0 ≤ ui) (_hui3 : ui ≤ 3) (HUI : Hid (ui = (u : Int)))
    (hK : K < s.size) (hK32 : s[K].toNat = 32) (HNO : Hid (∀ j, (hj : j < s.size) → j < K → s[j].toNat ≠ 32)) (hKp : 0 < K)
    (HU : Hid (Ca 6 #[.string (s.extract (K + 1) s.size)] (.tuple #[.int .i64 ui, .int .i64 0])))
    (hu : u = 0) (hb : s[0].toNat = 45) (hdl : d.length = K - 1) (HD : Hid (∀ i, 1 ≤ i → (hi : i < K) → d[i - 1]? = some (s[i]'(by omega))))
    (HBAD : Hid (figOK u d = false → rn = 0 ∧ rc = ⟨#[]⟩ ∧ re = 12))
    (HZERO : Hid (figOK u d = true → figN d = 0 → rn = 0 ∧ rc = ⟨#[]⟩ ∧ re = 12))
    (HVAL : Hid (∀ V, figN d = V → figOK u d = true → 0 < V → V ≤ 1125899906842624 → rn = -(V : Int) ∧ rc = s.extract (K + 1) s.size ∧ re = 0))
    (HBIG : Hid (figOK u d = true → 1125899906842624 < figN d → rn = 0 ∧ rc = ⟨#[]⟩ ∧ re = 14)) :
    Calls Tryd.prog 14 #[.string s] w (R3 w rn rc re) := by
  have HST : Hid (AtR s.data.toList (.int .i64 0)) := ⟨0, Nat.zero_le _, rfl, by simp⟩
  have HNX : Hid (∀ k, (h : k < s.size) → s[k].toNat ≠ 32 → (32 : UInt8) ∉ s.data.toList.take k → AtR s.data.toList (.int .i64 ((k : Int) + 1))) := fun k h hn hk => ⟨k + 1, by rw [data_len]; omega, rfl, by
    rw [data_take s k h]
    intro hm
    rcases List.mem_append.1 hm with hm | hm
    · exact hk hm
    · exact hn (by rw [← List.mem_singleton.1 hm]; rfl)⟩
  have HKK : Hid (∀ k, (h : k < s.size) → (32 : UInt8) ∉ s.data.toList.take k → k < K ∨ k = K) := fun k h hk => by
    rcases Nat.lt_trichotomy k K with hlt | heq | hgt
    · exact .inl hlt
    · exact .inr heq
    · refine absurd ?_ hk
      have : s.data.toList[K]? = some s[K] := Lib.data_getElem? s K hK
      rw [show s[K] = 32 from UInt8.toNat_inj.1 hK32] at this
      rw [← List.getElem?_take_of_lt hgt] at this
      exact List.mem_of_getElem? this
  go_enter Tryd.func14, Tryd.ntmps14
  go_wp2_with fail
  go_loop [5] (AtR s.data.toList) (fun i => s.size - (intOf i).toNat)
  case atStart => exact HST.out
  case round =>
    obtain ⟨k, hk, rfl, hno⟩ := hrel
    rw [data_len] at hk
    have HNOK := Lib.hid hno
    clear hno
    by_cases hltK : k < K
    · have hlt : k < s.size := by omega
      have h32 := HNO.out k hlt hltK
      have NX := Lib.hid (HNX.out k hlt h32 HNOK.out)
      clear HNX HNO HKK
      go_wp2_with fail
      go_round
      case rel => exact NX.out
      case measure => simp [intOf]; omega
    · obtain rfl : k = K := by
        by_cases hlt : k < s.size
        · rcases HKK.out k hlt HNOK.out with h | h
          · exact absurd h hltK
          · exact h
        · exfalso
          obtain rfl : k = s.size := by omega
          have hm : s.data.toList[K]? = some 32 := by
            have := Lib.data_getElem? s K hK
            rwa [show s[K] = 32 from UInt8.toNat_inj.1 hK32] at this
          have : (32 : UInt8) ∈ s.data.toList.take s.size := by
            rw [List.take_of_length_le (by rw [data_len]; exact Nat.le_refl _)]
            exact List.mem_of_getElem? hm
          exact HNOK.out this
      clear HNX HNO HKK HNOK hltK
      have k6 : decide ((0 : Int) < ui) = false := by have := HUI.out; simp; omega
      have kb : ((s[0].toNat : Int) == 45) = true := by rw [hb]; rfl
      have HU0 := Lib.hid hu
      clear hu
      go_wp2_with fail
      refine (HU.out _).mono ?_
      rintro e w1 ⟨rfl, b1⟩
      have B1 := Lib.hid b1
      clear b1
      go_upto_region 16 with (fail)
      obtain ⟨wi, hwi⟩ : ∃ wi : Int, wi = (k : Int) - 1 := ⟨_, rfl⟩
      rw [← hwi]
      have HWI : Hid (wi = (k : Int) - 1 - 0) := by have := HUI.out; show wi = _; omega
      clear hwi
      by_cases hw1 : wi < 1
      · obtain ⟨r1, r2, r3⟩ := HBAD.out (fig_bad fun wl' hw => by
          have h1 := hw.1
          have h2 := hw.2.1
          rw [if_pos HU0.out] at h1
          have := HWI.out
          omega)
        have RR := Lib.hid (And.intro r1 (And.intro r2 r3))
        clear r1 r2 r3 HZERO HBIG HVAL HBAD
        go_wp2_with fail
        go_ret3
        exact ⟨ret_three RR.out.1.symm RR.out.2.1.symm RR.out.2.2.symm, B1.out⟩
      obtain ⟨wl, rfl⟩ : ∃ wl : Nat, wi = (wl : Int) := ⟨wi.toNat, by omega⟩
      have hwk : k = wl + 1 + 0 := by have := HWI.out; omega
      have hw1' : 1 ≤ wl := by omega
      have kk1 : decide ((wl : Int) < 1) = false := by simp; omega
      have HWK := Lib.hid hwk
      clear hw1 HWI
      have hb1 : 1 < s.size := by omega
      have hwlb : wl ≤ 100000 := by omega
      clear hwk
      have hd0 : d.head? = some (s[1]'hb1) := by
        rw [List.head?_eq_getElem?]
        have := HD.out 1 (Nat.le_refl _) (by have := HWK.out; omega)
        rwa [show 1 - 1 = 0 by omega] at this
      have HD0 := Lib.hid hd0
      clear hd0
      by_cases hz : 1 < wl ∧ (s[1]'hb1).toNat = 48
      · have hwk := HWK.out
        obtain ⟨r1, r2, r3⟩ := HBAD.out (fig_bad fun wl' hw => by
          have h1 := hw.1
          rw [if_pos HU0.out] at h1
          refine hw.2.2.1 ⟨by omega, ?_⟩
          rw [HD0.out]
          exact congrArg some (UInt8.toNat_inj.1 hz.2))
        have RR := Lib.hid (And.intro r1 (And.intro r2 r3))
        obtain ⟨hz1, hz2⟩ := hz
        have k48 : (((s[1]'hb1).toNat : Int) == 48) = true := by rw [hz2]; rfl
        have kgt : decide ((1 : Int) < (wl : Int)) = true := by simp; omega
        clear r1 r2 r3 HZERO HBIG HVAL HBAD hwk
        go_wp2_with fail
        go_ret3
        exact ⟨ret_three RR.out.1.symm RR.out.2.1.symm RR.out.2.2.symm, B1.out⟩
      have HZ : Hid (¬(1 < wl ∧ d.head? = some 48)) := fun ⟨h1, h2⟩ => by
        rw [HD0.out] at h2
        exact hz ⟨h1, by rw [Option.some.inj h2]; rfl⟩
      go_upto_region 16 with (fail)
      go_cut [68] (fun s68 wx => s68 = .bool false ∧ w1 = wx)
      case first =>
        have hwk := HWK.out
        by_cases hz1 : 1 < wl
        · have kgt : decide ((1 : Int) < (wl : Int)) = true := by simp; omega
          have k48 : (((s[1]'hb1).toNat : Int) == 48) = false := by
            have : (s[1]'hb1).toNat ≠ 48 := fun h => hz ⟨hz1, h⟩
            simp; omega
          clear hz hwk
          go_wp2_with fail
          go_meet
          exact ⟨rfl, rfl⟩
        · have kgt : decide ((1 : Int) < (wl : Int)) = false := by simp; omega
          clear hz hwk
          go_wp2_with fail
          go_meet
          exact ⟨rfl, rfl⟩
      case rest =>
      obtain ⟨rfl, rfl⟩ := hcut
      clear hz
      have HSTA : Hid (AmR 1 u wl k d (.int .i64 0) (.bool false) (.int .i64 1)) := ⟨1, 0, false, rfl, rfl, rfl, Nat.le_refl _, by omega, by rw [show 1 - 1 = 0 by omega, List.take_zero, show numL (digs u wl []) = 0 by unfold digs; split <;> simp [numL]]; exact .inl ⟨rfl, rfl, by unfold maxM; omega⟩, fun p c hp => by omega⟩
      have hwk := HWK.out
      have HEND : Hid (∀ n big, SatN (numL (digs u wl (d.take (k - 1)))) n big → (∀ p c, p < k - 1 → d[p]? = some c → okAt u wl p c) → figOK u d = true ∧ SatN (figN d) n big) := fun n big hs ha => by
        have ht : d.take (k - 1) = d := List.take_of_length_le (by omega)
        rw [ht] at hs
        have hf : figAt u wl d := ⟨by rw [if_pos HU0.out]; omega, by omega, HZ.out, fun p c hc => ha p c (by have := (List.getElem?_eq_some_iff.1 hc).1; omega) hc⟩
        obtain ⟨h1, h2⟩ := fig_num hf
        refine ⟨h1, ?_⟩
        unfold figN
        rw [h2]; exact hs
      have HBADK : Hid (∀ j c, d[j]? = some c → ¬okAt u wl j c → figOK u d = false) := fun j c hc hn => fig_bad fun wl' hw => by
        have h1 := hw.1
        rw [if_pos HU0.out] at h1
        obtain rfl : wl' = wl := by omega
        exact hn (hw.2.2.2 j c hc)
      clear HST HU hwk
      go_wp2_with fail
      go_loop [11, 12, 13] (AmR 1 u wl k d) (fun _ _ i => k - (intOf i).toNat)
      case atStart => exact HSTA.out
      case round =>
        obtain ⟨i, n, big, rfl, rfl, rfl, hbi, hik, hsat, hok⟩ := hrel
        have hnM := sat_le hsat
        have HSAT := Lib.hid hsat
        have HOKP := Lib.hid hok
        clear hsat hok HSTA
        by_cases hit : i < k
        · have his : i < s.size := by omega
          have hdi : d[i - 1]? = some s[i] := HD.out i hbi hit
          have HDI := Lib.hid hdi
          have es : i + 1 - 1 = (i - 1) + 1 := by omega
          have HES := Lib.hid es
          clear hdi es
          have hdg : okAt u wl (i - 1) s[i] ↔ isDig s[i] = true := by unfold okAt; rw [if_neg (by have := HU0.out; omega)]
          have hnp : ¬(0 < u ∧ i - 1 = wl) := by have := HU0.out; omega
          by_cases c1 : s[i].toNat < 48
          · obtain ⟨r1, r2, r3⟩ := HBAD.out (HBADK.out _ _ HDI.out (fun hq => by have := isDig_iff.1 (hdg.1 hq); omega))
            have RR := Lib.hid (And.intro r1 (And.intro r2 r3))
            clear hdg hnp r1 r2 r3
            go_wp2_with fail
            go_ret3
            exact ⟨ret_three RR.out.1.symm RR.out.2.1.symm RR.out.2.2.symm, B1.out⟩
          · by_cases c2 : 57 < s[i].toNat
            · obtain ⟨r1, r2, r3⟩ := HBAD.out (HBADK.out _ _ HDI.out (fun hq => by have := isDig_iff.1 (hdg.1 hq); omega))
              have RR := Lib.hid (And.intro r1 (And.intro r2 r3))
              clear hdg hnp r1 r2 r3
              go_wp2_with fail
              go_ret3
              exact ⟨ret_three RR.out.1.symm RR.out.2.1.symm RR.out.2.2.symm, B1.out⟩
            · have hokd : okAt u wl (i - 1) s[i] := hdg.2 (isDig_iff.2 ⟨by omega, by omega⟩)
              have HN1 : Hid (∀ n' big', SatN (10 * numL (digs u wl (d.take (i - 1))) + (s[i].toNat - 48)) n' big' → ∀ q : Int, q = (n' : Int) → AmR 1 u wl k d (.int .i64 q) (.bool big') (.int .i64 ((i : Int) + 1))) := fun n' big' hs q hq => ⟨i + 1, n', big', by rw [hq], rfl, rfl, by omega, by omega, by rw [HES.out, digs_dig HDI.out hnp, numL_snoc]; exact hs, by rw [HES.out]; exact okAt_next HOKP.out HDI.out hokd⟩
              by_cases hM : 1125899906842624 < 10 * n + (s[i].toNat - 48)
              · have NX := Lib.hid (HN1.out 1125899906842624 true (sat_more HSAT.out _ (by unfold maxM; exact hM)) 1125899906842624 rfl)
                clear HN1 hokd hdg hnp
                go_wp2_with fail
                go_round
                case rel => exact NX.out
                case measure => simp [intOf]; omega
              · have NX := Lib.hid (HN1.out (10 * n + (s[i].toNat - 48)) big (sat_less HSAT.out _ (by unfold maxM; exact hM)) (10 * (n : Int) + (s[i].toNat : Int) - 48) (by omega))
                clear HN1 hokd hdg hnp
                go_wp2_with fail
                go_round
                case rel => exact NX.out
                case measure => simp [intOf]; omega
        · obtain rfl : i = k := by omega
          obtain ⟨hfo, hfs⟩ := HEND.out n big HSAT.out HOKP.out
          obtain ⟨V, hV⟩ : ∃ V, V = figN d := ⟨_, rfl⟩
          rw [← hV] at hfs
          rcases hfs with ⟨rfl, rfl, hle⟩ | ⟨rfl, rfl, hgt⟩
          · unfold maxM at hle
            rcases Nat.eq_zero_or_pos n with hn0 | hn0
            · have k0 : ((n : Int) == 0) = true := by rw [hn0]; rfl
              obtain ⟨r1, r2, r3⟩ := HZERO.out hfo (by omega)
              have RR := Lib.hid (And.intro r1 (And.intro r2 r3))
              clear r1 r2 r3 hV hfo HEND HBADK HSAT HOKP HZERO HBIG HVAL HBAD
              go_wp2_with fail
              go_ret3
              exact ⟨ret_three RR.out.1.symm RR.out.2.1.symm RR.out.2.2.symm, B1.out⟩
            · have k0 : ((n : Int) == 0) = false := by simp; omega
              obtain ⟨r1, r2, r3⟩ := HVAL.out n hV.symm hfo hn0 hle
              have RR := Lib.hid (And.intro r1 (And.intro r2 r3))
              clear r1 r2 r3 hV hfo HEND HBADK HSAT HOKP HZERO HBIG HVAL HBAD
              go_wp2_with fail
              go_ret3
              exact ⟨ret_three RR.out.1.symm RR.out.2.1.symm RR.out.2.2.symm, B1.out⟩
          · unfold maxM at hgt
            obtain ⟨r1, r2, r3⟩ := HBIG.out hfo (by omega)
            have RR := Lib.hid (And.intro r1 (And.intro r2 r3))
            clear r1 r2 r3 hV hfo HEND HBADK HSAT HOKP HZERO HBIG HVAL HBAD
            go_wp2_with fail
            go_ret3
            exact ⟨ret_three RR.out.1.symm RR.out.2.1.symm RR.out.2.2.symm, B1.out⟩
set_option maxHeartbeats 16000000 in
set_option maxRecDepth 100000 in
theorem rread_1_more (s : ByteArray) (w : World) (hs : s.size ≤ 100000) (rn re : Int) (rc : ByteArray) (K u : Nat) (d : List UInt8) (ui : Int) (hui0 : 0 ≤ ui) (hui3 : ui ≤ 3) (HUI : Hid (ui = (u : Int)))
    (hK : K < s.size) (hK32 : s[K].toNat = 32) (HNO : Hid (∀ j, (hj : j < s.size) → j < K → s[j].toNat ≠ 32)) (hKp : 0 < K)
    (HU : Hid (Ca 6 #[.string (s.extract (K + 1) s.size)] (.tuple #[.int .i64 ui, .int .i64 0])))
    (hu : 0 < u) (hb : s[0].toNat = 45) (hdl : d.length = K - 1) (HD : Hid (∀ i, 1 ≤ i → (hi : i < K) → d[i - 1]? = some (s[i]'(by omega))))
    (HBAD : Hid (figOK u d = false → rn = 0 ∧ rc = ⟨#[]⟩ ∧ re = 12))
    (HZERO : Hid (figOK u d = true → figN d = 0 → rn = 0 ∧ rc = ⟨#[]⟩ ∧ re = 12))
    (HVAL : Hid (∀ V, figN d = V → figOK u d = true → 0 < V → V ≤ 1125899906842624 → rn = -(V : Int) ∧ rc = s.extract (K + 1) s.size ∧ re = 0))
    (HBIG : Hid (figOK u d = true → 1125899906842624 < figN d → rn = 0 ∧ rc = ⟨#[]⟩ ∧ re = 14)) :
    Calls Tryd.prog 14 #[.string s] w (R3 w rn rc re) := by
  have HST : Hid (AtR s.data.toList (.int .i64 0)) := ⟨0, Nat.zero_le _, rfl, by simp⟩
  have HNX : Hid (∀ k, (h : k < s.size) → s[k].toNat ≠ 32 → (32 : UInt8) ∉ s.data.toList.take k → AtR s.data.toList (.int .i64 ((k : Int) + 1))) := fun k h hn hk => ⟨k + 1, by rw [data_len]; omega, rfl, by
    rw [data_take s k h]
    intro hm
    rcases List.mem_append.1 hm with hm | hm
    · exact hk hm
    · exact hn (by rw [← List.mem_singleton.1 hm]; rfl)⟩
  have HKK : Hid (∀ k, (h : k < s.size) → (32 : UInt8) ∉ s.data.toList.take k → k < K ∨ k = K) := fun k h hk => by
    rcases Nat.lt_trichotomy k K with hlt | heq | hgt
    · exact .inl hlt
    · exact .inr heq
    · refine absurd ?_ hk
      have : s.data.toList[K]? = some s[K] := Lib.data_getElem? s K hK
      rw [show s[K] = 32 from UInt8.toNat_inj.1 hK32] at this
      rw [← List.getElem?_take_of_lt hgt] at this
      exact List.mem_of_getElem? this
  go_enter Tryd.func14, Tryd.ntmps14
  go_wp2_with fail
  go_loop [5] (AtR s.data.toList) (fun i => s.size - (intOf i).toNat)
  case atStart => exact HST.out
  case round =>
    obtain ⟨k, hk, rfl, hno⟩ := hrel
    rw [data_len] at hk
    have HNOK := Lib.hid hno
    clear hno
    by_cases hltK : k < K
    · have hlt : k < s.size := by omega
      have h32 := HNO.out k hlt hltK
      have NX := Lib.hid (HNX.out k hlt h32 HNOK.out)
      clear HNX HNO HKK
      go_wp2_with fail
      go_round
      case rel => exact NX.out
      case measure => simp [intOf]; omega
    · obtain rfl : k = K := by
        by_cases hlt : k < s.size
        · rcases HKK.out k hlt HNOK.out with h | h
          · exact absurd h hltK
          · exact h
        · exfalso
          obtain rfl : k = s.size := by omega
          have hm : s.data.toList[K]? = some 32 := by
            have := Lib.data_getElem? s K hK
            rwa [show s[K] = 32 from UInt8.toNat_inj.1 hK32] at this
          have : (32 : UInt8) ∈ s.data.toList.take s.size := by
            rw [List.take_of_length_le (by rw [data_len]; exact Nat.le_refl _)]
            exact List.mem_of_getElem? hm
          exact HNOK.out this
      clear HNX HNO HKK HNOK hltK
      have k6 : decide ((0 : Int) < ui) = true := by have := HUI.out; simp; omega
      have kb : ((s[0].toNat : Int) == 45) = true := by rw [hb]; rfl
      have HUP := Lib.hid hu
      
      go_wp2_with fail
      refine (HU.out _).mono ?_
      rintro e w1 ⟨rfl, b1⟩
      have B1 := Lib.hid b1
      clear b1
      go_upto_region 16 with (fail)
      obtain ⟨wi, hwi⟩ : ∃ wi : Int, wi = (k : Int) - 1 - ui - 1 := ⟨_, rfl⟩
      rw [← hwi]
      have HWI : Hid (wi = (k : Int) - 1 - ((u : Int) + 1)) := by have := HUI.out; show wi = _; omega
      clear hwi
      by_cases hw1 : wi < 1
      · obtain ⟨r1, r2, r3⟩ := HBAD.out (fig_bad fun wl' hw => by
          have h1 := hw.1
          have h2 := hw.2.1
          rw [if_neg (by omega : ¬u = 0)] at h1
          have := HWI.out
          omega)
        have RR := Lib.hid (And.intro r1 (And.intro r2 r3))
        clear r1 r2 r3 HZERO HBIG HVAL HBAD
        go_wp2_with fail
        go_ret3
        exact ⟨ret_three RR.out.1.symm RR.out.2.1.symm RR.out.2.2.symm, B1.out⟩
      obtain ⟨wl, rfl⟩ : ∃ wl : Nat, wi = (wl : Int) := ⟨wi.toNat, by omega⟩
      have hwk : k = wl + 1 + (u + 1) := by have := HWI.out; omega
      have hw1' : 1 ≤ wl := by omega
      have kk1 : decide ((wl : Int) < 1) = false := by simp; omega
      have HWK := Lib.hid hwk
      clear hw1 HWI
      have hb1 : 1 < s.size := by omega
      have hwlb : wl ≤ 100000 := by omega
      clear hwk
      have hd0 : d.head? = some (s[1]'hb1) := by
        rw [List.head?_eq_getElem?]
        have := HD.out 1 (Nat.le_refl _) (by have := HWK.out; omega)
        rwa [show 1 - 1 = 0 by omega] at this
      have HD0 := Lib.hid hd0
      clear hd0
      by_cases hz : 1 < wl ∧ (s[1]'hb1).toNat = 48
      · have hwk := HWK.out
        obtain ⟨r1, r2, r3⟩ := HBAD.out (fig_bad fun wl' hw => by
          have h1 := hw.1
          rw [if_neg (by omega : ¬u = 0)] at h1
          refine hw.2.2.1 ⟨by omega, ?_⟩
          rw [HD0.out]
          exact congrArg some (UInt8.toNat_inj.1 hz.2))
        have RR := Lib.hid (And.intro r1 (And.intro r2 r3))
        obtain ⟨hz1, hz2⟩ := hz
        have k48 : (((s[1]'hb1).toNat : Int) == 48) = true := by rw [hz2]; rfl
        have kgt : decide ((1 : Int) < (wl : Int)) = true := by simp; omega
        clear r1 r2 r3 HZERO HBIG HVAL HBAD hwk
        go_wp2_with fail
        go_ret3
        exact ⟨ret_three RR.out.1.symm RR.out.2.1.symm RR.out.2.2.symm, B1.out⟩
      have HZ : Hid (¬(1 < wl ∧ d.head? = some 48)) := fun ⟨h1, h2⟩ => by
        rw [HD0.out] at h2
        exact hz ⟨h1, by rw [Option.some.inj h2]; rfl⟩
      go_upto_region 16 with (fail)
      go_cut [68] (fun s68 wx => s68 = .bool false ∧ w1 = wx)
      case first =>
        have hwk := HWK.out
        by_cases hz1 : 1 < wl
        · have kgt : decide ((1 : Int) < (wl : Int)) = true := by simp; omega
          have k48 : (((s[1]'hb1).toNat : Int) == 48) = false := by
            have : (s[1]'hb1).toNat ≠ 48 := fun h => hz ⟨hz1, h⟩
            simp; omega
          clear hz hwk
          go_wp2_with fail
          go_meet
          exact ⟨rfl, rfl⟩
        · have kgt : decide ((1 : Int) < (wl : Int)) = false := by simp; omega
          clear hz hwk
          go_wp2_with fail
          go_meet
          exact ⟨rfl, rfl⟩
      case rest =>
      obtain ⟨rfl, rfl⟩ := hcut
      clear hz
      have HSTA : Hid (AmR 1 u wl k d (.int .i64 0) (.bool false) (.int .i64 1)) := ⟨1, 0, false, rfl, rfl, rfl, Nat.le_refl _, by omega, by rw [show 1 - 1 = 0 by omega, List.take_zero, show numL (digs u wl []) = 0 by unfold digs; split <;> simp [numL]]; exact .inl ⟨rfl, rfl, by unfold maxM; omega⟩, fun p c hp => by omega⟩
      have hwk := HWK.out
      have HEND : Hid (∀ n big, SatN (numL (digs u wl (d.take (k - 1)))) n big → (∀ p c, p < k - 1 → d[p]? = some c → okAt u wl p c) → figOK u d = true ∧ SatN (figN d) n big) := fun n big hs ha => by
        have ht : d.take (k - 1) = d := List.take_of_length_le (by omega)
        rw [ht] at hs
        have hf : figAt u wl d := ⟨by rw [if_neg (by omega)]; omega, by omega, HZ.out, fun p c hc => ha p c (by have := (List.getElem?_eq_some_iff.1 hc).1; omega) hc⟩
        obtain ⟨h1, h2⟩ := fig_num hf
        refine ⟨h1, ?_⟩
        unfold figN
        rw [h2]; exact hs
      have HBADK : Hid (∀ j c, d[j]? = some c → ¬okAt u wl j c → figOK u d = false) := fun j c hc hn => fig_bad fun wl' hw => by
        have h1 := hw.1
        rw [if_neg (by omega : ¬u = 0)] at h1
        obtain rfl : wl' = wl := by omega
        exact hn (hw.2.2.2 j c hc)
      clear HST HU hwk
      go_wp2_with fail
      go_loop [11, 12, 13] (AmR 1 u wl k d) (fun _ _ i => k - (intOf i).toNat)
      case atStart => exact HSTA.out
      case round =>
        obtain ⟨i, n, big, rfl, rfl, rfl, hbi, hik, hsat, hok⟩ := hrel
        have hnM := sat_le hsat
        have HSAT := Lib.hid hsat
        have HOKP := Lib.hid hok
        clear hsat hok HSTA
        by_cases hit : i < k
        · have his : i < s.size := by omega
          have hdi : d[i - 1]? = some s[i] := HD.out i hbi hit
          have HDI := Lib.hid hdi
          have es : i + 1 - 1 = (i - 1) + 1 := by omega
          have HES := Lib.hid es
          clear hdi es
          have hwk := Lib.hid HWK.out
          by_cases hpt : i = 1 + wl
          · obtain rfl : i = 1 + wl := by omega
            clear hpt
            have hok46 : s[(1 + wl)].toNat = 46 → okAt u wl ((1 + wl) - 1) s[(1 + wl)] := fun h => by unfold okAt; rw [if_pos ⟨by omega, by omega⟩]; exact UInt8.toNat_inj.1 h
            have hno46 : s[(1 + wl)].toNat ≠ 46 → ¬okAt u wl ((1 + wl) - 1) s[(1 + wl)] := fun h hq => by unfold okAt at hq; rw [if_pos ⟨by omega, by omega⟩] at hq; exact h (by rw [hq]; rfl)
            by_cases h46 : s[(1 + wl)].toNat = 46
            · have NX : Hid (AmR 1 u wl k d (.int .i64 (n : Int)) (.bool big) (.int .i64 ((((1 + wl) : Nat) : Int) + 1))) := ⟨(1 + wl) + 1, n, big, rfl, rfl, rfl, by omega, by omega, by rw [HES.out, digs_pt HDI.out ⟨by omega, by omega⟩]; exact HSAT.out, by rw [HES.out]; exact okAt_next HOKP.out HDI.out (hok46 h46)⟩
              clear hok46 hno46
              go_wp2_with fail
              go_round
              case rel => exact NX.out
              case measure => simp [intOf]; omega
            · obtain ⟨r1, r2, r3⟩ := HBAD.out (HBADK.out _ _ HDI.out (hno46 h46))
              have RR := Lib.hid (And.intro r1 (And.intro r2 r3))
              clear hok46 hno46 r1 r2 r3
              go_wp2_with fail
              go_ret3
              exact ⟨ret_three RR.out.1.symm RR.out.2.1.symm RR.out.2.2.symm, B1.out⟩
          have e82 : ((i : Int) == 1 + (wl : Int)) = false := by simp; omega
          have hdg : okAt u wl (i - 1) s[i] ↔ isDig s[i] = true := by unfold okAt; rw [if_neg (by omega)]
          have hnp : ¬(0 < u ∧ i - 1 = wl) := by omega
          by_cases c1 : s[i].toNat < 48
          · obtain ⟨r1, r2, r3⟩ := HBAD.out (HBADK.out _ _ HDI.out (fun hq => by have := isDig_iff.1 (hdg.1 hq); omega))
            have RR := Lib.hid (And.intro r1 (And.intro r2 r3))
            clear hdg hnp r1 r2 r3 hpt
            go_wp2_with fail
            go_ret3
            exact ⟨ret_three RR.out.1.symm RR.out.2.1.symm RR.out.2.2.symm, B1.out⟩
          · by_cases c2 : 57 < s[i].toNat
            · obtain ⟨r1, r2, r3⟩ := HBAD.out (HBADK.out _ _ HDI.out (fun hq => by have := isDig_iff.1 (hdg.1 hq); omega))
              have RR := Lib.hid (And.intro r1 (And.intro r2 r3))
              clear hdg hnp r1 r2 r3 hpt
              go_wp2_with fail
              go_ret3
              exact ⟨ret_three RR.out.1.symm RR.out.2.1.symm RR.out.2.2.symm, B1.out⟩
            · have hokd : okAt u wl (i - 1) s[i] := hdg.2 (isDig_iff.2 ⟨by omega, by omega⟩)
              have HN1 : Hid (∀ n' big', SatN (10 * numL (digs u wl (d.take (i - 1))) + (s[i].toNat - 48)) n' big' → ∀ q : Int, q = (n' : Int) → AmR 1 u wl k d (.int .i64 q) (.bool big') (.int .i64 ((i : Int) + 1))) := fun n' big' hs q hq => ⟨i + 1, n', big', by rw [hq], rfl, rfl, by omega, by omega, by rw [HES.out, digs_dig HDI.out hnp, numL_snoc]; exact hs, by rw [HES.out]; exact okAt_next HOKP.out HDI.out hokd⟩
              by_cases hM : 1125899906842624 < 10 * n + (s[i].toNat - 48)
              · have NX := Lib.hid (HN1.out 1125899906842624 true (sat_more HSAT.out _ (by unfold maxM; exact hM)) 1125899906842624 rfl)
                clear HN1 hokd hdg hnp hpt
                go_wp2_with fail
                go_round
                case rel => exact NX.out
                case measure => simp [intOf]; omega
              · have NX := Lib.hid (HN1.out (10 * n + (s[i].toNat - 48)) big (sat_less HSAT.out _ (by unfold maxM; exact hM)) (10 * (n : Int) + (s[i].toNat : Int) - 48) (by omega))
                clear HN1 hokd hdg hnp hpt
                go_wp2_with fail
                go_round
                case rel => exact NX.out
                case measure => simp [intOf]; omega
        · obtain rfl : i = k := by omega
          obtain ⟨hfo, hfs⟩ := HEND.out n big HSAT.out HOKP.out
          obtain ⟨V, hV⟩ : ∃ V, V = figN d := ⟨_, rfl⟩
          rw [← hV] at hfs
          rcases hfs with ⟨rfl, rfl, hle⟩ | ⟨rfl, rfl, hgt⟩
          · unfold maxM at hle
            rcases Nat.eq_zero_or_pos n with hn0 | hn0
            · have k0 : ((n : Int) == 0) = true := by rw [hn0]; rfl
              obtain ⟨r1, r2, r3⟩ := HZERO.out hfo (by omega)
              have RR := Lib.hid (And.intro r1 (And.intro r2 r3))
              clear r1 r2 r3 hV hfo HEND HBADK HSAT HOKP HZERO HBIG HVAL HBAD
              go_wp2_with fail
              go_ret3
              exact ⟨ret_three RR.out.1.symm RR.out.2.1.symm RR.out.2.2.symm, B1.out⟩
            · have k0 : ((n : Int) == 0) = false := by simp; omega
              obtain ⟨r1, r2, r3⟩ := HVAL.out n hV.symm hfo hn0 hle
              have RR := Lib.hid (And.intro r1 (And.intro r2 r3))
              clear r1 r2 r3 hV hfo HEND HBADK HSAT HOKP HZERO HBIG HVAL HBAD
              go_wp2_with fail
              go_ret3
              exact ⟨ret_three RR.out.1.symm RR.out.2.1.symm RR.out.2.2.symm, B1.out⟩
          · unfold maxM at hgt
            obtain ⟨r1, r2, r3⟩ := HBIG.out hfo (by omega)
            have RR := Lib.hid (And.intro r1 (And.intro r2 r3))
            clear r1 r2 r3 hV hfo HEND HBADK HSAT HOKP HZERO HBIG HVAL HBAD
            go_wp2_with fail
            go_ret3
            exact ⟨ret_three RR.out.1.symm RR.out.2.1.symm RR.out.2.2.symm, B1.out⟩

end Go.Proofs.YtnikhbdjlipcbaaDoor
