/-
  The reference's One and Lex at every text. No condition.
-/
import Derived.Test.YtnmiiimbjojcmaaGreatDoorMrm
import Derived.Test.YtnmiiimbjojcmaaGreatDoorMrn
namespace Go.Proofs.YtnmiiimbjojcmaaGreatDoor
open Go.RowKit Go.Shelf
set_option linter.unusedVariables false

theorem drop_size (s : ByteArray) (i : Nat) : (s.data.toList.drop i).length = s.size - i := by rw [List.length_drop, data_len]
theorem rone_any (s : ByteArray) (i : Nat) (w : World) (hs : s.size ≤ 20000) (hi : i < s.size) : Calls Tryz.prog 13 #[.string s, .int .i64 (i : Int)] w (OnePost w i (oneL (s.data.toList.drop i))) := by
  have hl := dropAt s i hi
  have hi1 : i + 1 ≤ s.size := by omega
  have HL0 := Lib.hid (fun W => letter_rf s[i] W)
  rw [hl]
  obtain ⟨r, hr⟩ : ∃ r, r = s.data.toList.drop (i + 1) := ⟨_, rfl⟩
  rw [← hr]
  have hrl : r.length = s.size - (i + 1) := by rw [hr, drop_size]
  by_cases hlet : letB s[i] = true
  · rw [hlet] at HL0
    rw [oneL_word hlet]
    obtain ⟨E, hE⟩ : ∃ E, E = i + 1 + spn wdQ r := ⟨_, rfl⟩
    have hEs : E ≤ s.size := by have := spn_le wdQ r; omega
    have hT : (s.extract i E).data.toList = (s[i] :: r).take (spn wdQ r + 1) := by
      rw [ext_list, hl, ← hr]; congr 1; omega
    have hTz : (s.extract i E).size = spn wdQ r + 1 := by simp; omega
    have HE : Hid (i + 1 + spn wdQ (s.data.toList.drop (i + 1)) = E) := by rw [← hr]; exact hE.symm
    by_cases h40 : 40 < spn wdQ r + 1
    · rw [if_pos h40]
      exact rone_word0 s i w hs hi _ HL0 E _ HE (by omega) hEs rfl (by simp; omega) rfl
    · rw [if_neg h40]
      refine rone_word1 s i w hs hi _ HL0 E _ HE (by omega) hEs rfl (by simp; omega) ?_
      show OneR.yes _ _ = OneR.yes _ _
      rw [bs_of hT, show E - i = spn wdQ r + 1 by omega]; rfl
  · have hlf := Bool.eq_false_iff.2 hlet
    rw [hlf] at HL0
    by_cases h34 : s[i].toNat = 34
    · have t34 : ((s[i].toNat : Int) == 34) = true := by simp; omega
      rw [oneL_quote h34]
      obtain ⟨k, hk⟩ : ∃ k, k = spn (fun x => decide (x.toNat ≠ 34)) r := ⟨_, rfl⟩
      rw [← hk]
      have hkl : k ≤ r.length := by rw [hk]; exact spn_le _ r
      have HE : Hid (i + 1 + spn (fun x => decide (x.toNat ≠ 34)) (s.data.toList.drop (i + 1)) = i + 1 + k) := by rw [← hr, ← hk]; exact rfl
      by_cases hke : k < r.length
      · have hT : (s.extract (i + 1) (i + 1 + k)).data.toList = r.take k := by rw [ext_list, ← hr]; congr 1; omega
        cases hn : nmB (r.take k) with
        | true =>
          rw [if_pos ⟨hke, rfl⟩]
          refine rone_quote2 s i w hs hi _ HL0 t34 (i + 1 + k) HE (by omega) (by omega) _ rfl (name_rf _ _ (by rw [hT]; exact hn)) ?_
          show OneR.yes _ _ = OneR.yes _ _
          rw [bs_of hT, show i + 1 + k + 1 - i = k + 2 by omega]; rfl
        | false =>
          rw [if_neg (by rintro ⟨_, a⟩; cases a)]
          exact rone_quote1 s i w hs hi _ HL0 t34 (i + 1 + k) HE (by omega) (by omega) _ rfl (name_rf _ _ (by rw [hT]; exact hn)) rfl
      · rw [if_neg (by rintro ⟨a, _⟩; exact hke a)]
        exact rone_quote0 s i w hs hi _ HL0 t34 (i + 1 + k) HE (by omega) (by omega) rfl
    · have t34 : ((s[i].toNat : Int) == 34) = false := by simp; omega
      have HDA := Lib.hid (fun W => dated_rf s i W (by omega) (by omega))
      rw [hl, ← hr] at HDA
      by_cases hday : dayQ (s[i] :: r) = true
      · rw [hday] at HDA
        rw [oneL_day hday]
        have h10 : i + 10 ≤ s.size := by have := dayQ_len hday; simp at this; omega
        have HEN := Lib.hid (fun W : World => ended_rf s (i + 10) W h10)
        have hd10 : s.data.toList.drop (i + 10) = (s[i] :: r).drop 10 := by rw [hr, ← hl, List.drop_drop]
        rw [hd10] at HEN
        cases hen : endQ ((s[i] :: r).drop 10) with
        | false =>
          rw [hen] at HEN
          rw [if_neg (by decide)]
          exact rone_day0 s i w hs hi _ HL0 t34 HDA h10 HEN rfl
        | true =>
          rw [hen] at HEN
          rw [if_pos rfl]
          have hT : (s.extract i (i + 10)).data.toList = (s[i] :: r).take 10 := by rw [ext_list, hl, ← hr]; congr 1; omega
          have hTz : (s.extract i (i + 10)).size = 10 := by simp; omega
          have hq10 : dayQ (s.extract i (i + 10)).data.toList = true := by
            rw [hT]
            obtain ⟨c0, c1, c2, c3, c5, c6, c8, c9, t, e, h0, h1, h2, h3, h5, h6, h8, h9⟩ := dayQ_ten hday
            rw [e] at hday ⊢
            exact hday
          have hdv : datV (s.extract i (i + 10)).data.toList = datV (s[i] :: r) := by
            rw [hT]
            obtain ⟨c0, c1, c2, c3, c5, c6, c8, c9, t, e, _⟩ := dayQ_ten hday
            rw [e]; rfl
          obtain ⟨v, q, hp, h1, h2⟩ := rdparse_exact _ hTz hq10
          rw [hdv] at h1 h2
          cases hv : datV (s[i] :: r) with
          | some day =>
            obtain ⟨e1, e2⟩ := h1 day hv
            exact rone_day2 s i w hs hi _ HL0 t34 HDA h10 HEN v q e2 _ rfl (Lib.hid hp) (by rw [e1]; exact rfl)
          | none =>
            exact rone_day1 s i w hs hi _ HL0 t34 HDA h10 HEN v q (by simpa using h2 hv) _ rfl (Lib.hid hp) rfl
      · have hdf := Bool.eq_false_iff.2 hday
        rw [hdf] at HDA
        have HDG := Lib.hid (fun W => digit_rf s[i] W)
        have HDT := Lib.hid (fun W : World => show Calls Tryz.prog 33 #[.string s, .int .i64 ((i : Int) + 1)] W (RetB W (dgH r)) from (by have := digitAt_rf s (i + 1) W hi1; rw [← hr] at this; exact this))
        cases hdq : dgQ s[i] with
        | true =>
          rw [hdq] at HDG
          rw [oneL_num hday (.inl hdq)]
          have HNU := Lib.hid (fun W => rnumber_any s i W (by omega) hi (.inl hdq))
          rw [hl, ← hr] at HNU
          exact rone_num_d s i w hs hi _ HL0 t34 HDA HDG HNU
        | false =>
          rw [hdq] at HDG
          have HMK := Lib.hid (fun W => mark_any s[i] W)
          have hT : (s.extract i (i + 1)).data.toList = [s[i]] := by
            rw [ext_list, hl, show i + 1 - i = 1 by omega]; rfl
          by_cases h45 : s[i].toNat = 45
          · have t45 : ((s[i].toNat : Int) == 45) = true := by simp; omega
            cases hdh : dgH r with
            | true =>
              rw [hdh] at HDT
              rw [oneL_num hday (.inr ⟨h45, hdh⟩)]
              have HNU := Lib.hid (fun W => rnumber_any s i W (by omega) hi (.inr ⟨h45, by rw [← hr]; exact hdh⟩))
              rw [hl, ← hr] at HNU
              exact rone_num_m s i w hs hi _ HL0 t34 HDA HDG t45 HDT HNU
            | false =>
              rw [hdh] at HDT
              have hmk : mkB s[i] = true := (mkB_nat _).2 (by omega)
              rw [hmk] at HMK
              rw [oneL_mark hmk (by rintro ⟨_, a⟩; rw [a] at hdh; cases hdh)]
              exact rone_mark11 s i w hs hi _ HL0 t34 HDA HDG t45 HDT HMK _ rfl (by rw [bs_of hT]; exact rfl)
          · have t45 : ((s[i].toNat : Int) == 45) = false := by simp; omega
            cases hmk : mkB s[i] with
            | true =>
              rw [hmk] at HMK
              rw [oneL_mark hmk (fun e => h45 e.1)]
              exact rone_mark10 s i w hs hi _ HL0 t34 HDA HDG t45 HMK _ rfl (by rw [bs_of hT]; exact rfl)
            | false =>
              rw [hmk] at HMK
              rw [oneL_none hlet h34 (by rw [hdq]; decide) (by rw [hmk]; decide)]
              exact rone_mark00 s i w hs hi _ HL0 t34 HDA HDG t45 HMK rfl
theorem rlex_any (s : ByteArray) (w : World) (hs : s.size ≤ 20000) : Calls Tryz.prog 6 #[.string s] w (LexPost w s.size (lexL 0 s.data.toList)) :=
  rlex_go s w hs _ rfl (Lib.hid fun T W h => rone_any s T W hs h)

end Go.Proofs.YtnmiiimbjojcmaaGreatDoor
