/-
  The law LexerBack at every list. No condition.
-/
import Derived.Test.YtnmiiimbjojcmaaDoorLzm
namespace Go.Proofs.YtnmiiimbjojcmaaDoor
open Go.RowKit Go.Shelf

set_option maxHeartbeats 1000000 in
set_option maxRecDepth 100000 in
theorem back_great (a : Option Addr) (n c : Nat) (w : World) (hn : 300 < n) : Calls Tryd.prog 8 #[.slice a n c] w (BelB w true) := by
  have HA : Hid (∀ W, Calls Tryd.prog 10 #[] W (BelB W true)) := fun W => alive_any W
  go_enter Tryd.func8, Tryd.ntmps8
  go_wp2_with fail
  refine (HA.out _).mono ?_
  rintro e w1 ⟨rfl, hb⟩
  have HB := Lib.hid hb
  clear hb
  go_wp2_with fail
  refine (great_yes _ _ _ _ hn).mono ?_
  rintro e w' ⟨rfl, rfl⟩
  go_wp2_with fail
  go_ret
  exact ⟨rfl, HB.out⟩
set_option maxHeartbeats 1000000 in
set_option maxRecDepth 100000 in
theorem back_zero (a : Option Addr) (c : Nat) (w : World) : Calls Tryd.prog 8 #[.slice a 0 c] w (BelB w true) := by
  have HA : Hid (∀ W, Calls Tryd.prog 10 #[] W (BelB W true)) := fun W => alive_any W
  have HX : Hid (∀ W, Calls Tryd.prog 12 #[.string ⟨#[]⟩] W (LexN W 0 0)) := fun W => lex_zero ⟨#[]⟩ W (by decide) (lexL_end rfl)
  go_enter Tryd.func8, Tryd.ntmps8
  go_wp2_with fail
  refine (HA.out _).mono ?_
  rintro e w1 ⟨rfl, hb⟩
  have HB := Lib.hid hb
  clear hb
  go_wp2_with fail
  refine (great_zero _ _ _).mono ?_
  rintro e w' ⟨rfl, rfl⟩
  go_wp2_with fail
  refine (join_none _ _ _).mono ?_
  rintro e w2 ⟨rfl, hb⟩
  have HB2 := Lib.hid (HB.out.trans (hb.mono HB.out.size))
  clear hb
  go_wp2_with fail
  refine (HX.out _).mono ?_
  rintro e w3 ⟨a1, c1, rfl, hb⟩
  have HB3 := Lib.hid (HB2.out.trans (hb.mono HB2.out.size))
  clear hb
  go_wp2_with fail
  refine (join_none _ _ _).mono ?_
  rintro e w4 ⟨rfl, hb⟩
  have HB4 := Lib.hid (HB3.out.trans (hb.mono HB3.out.size))
  clear hb
  go_wp2_with fail
  refine (same_nonel _ _ _ _ _).mono ?_
  rintro e w5 ⟨rfl, hb⟩
  have HB5 := Lib.hid (HB4.out.trans (hb.mono HB4.out.size))
  clear hb
  go_wp2_with fail
  go_ret
  exact ⟨rfl, HB5.out⟩
/-- Join of a list that cannot be joined, or is too long. -/
theorem jR_err {l : List Tk} {n : Nat} (h : ¬ ((∀ i, i < n → tkB (l[i]?.getD default) = true) ∧ (jT l n).length ≤ 20000)) : ∃ e : Int, e ≠ 0 ∧ jR l n = (⟨#[]⟩, e) := by
  by_cases hv : ∀ i, i < n → tkB (l[i]?.getD default) = true
  · exact ⟨4, by decide, jR_long hv (by have : ¬ (jT l n).length ≤ 20000 := fun e => h ⟨hv, e⟩; omega)⟩
  · have : ∃ i, i < n ∧ tkB (l[i]?.getD default) = false := by
      refine Classical.byContradiction fun hc => hv fun i hi => ?_
      cases hb : tkB (l[i]?.getD default) with
      | true => rfl
      | false => exact absurd ⟨i, hi, hb⟩ hc
    obtain ⟨i, hi, hb⟩ := this
    exact ⟨8, by decide, jR_bad hi hb⟩

set_option maxHeartbeats 2000000 in
set_option maxRecDepth 100000 in
theorem back_some (g o n c : Nat) (l : List Tk) (w : World) (hl : l.length = n) (hn : n ≤ 300) (hn1 : 1 ≤ n) (hg : g < w.heap.size) (h : Tks w g o l) :
    Calls Tryd.prog 8 #[.slice (some ⟨g, o, none⟩) n c] w (BelB w true) := by
  have HA : Hid (∀ W, Calls Tryd.prog 10 #[] W (BelB W true)) := fun W => alive_any W
  have HL := Lib.hid hl
  have HH := Lib.hid h
  have HG := Lib.hid hg
  clear hl h hg
  go_enter Tryd.func8, Tryd.ntmps8
  go_wp2_with fail
  refine (HA.out _).mono ?_
  rintro e w1 ⟨rfl, hb⟩
  have HB := Lib.hid hb
  clear hb
  go_wp2_with fail
  refine (great_any g o n c l _ HL.out hn (tks_below HH.out HB.out HG.out)).mono ?_
  rintro e w' ⟨rfl, rfl | ⟨rfl, hs⟩⟩
  · go_wp2_with fail
    go_ret
    exact ⟨rfl, HB.out⟩
  · have HS := Lib.hid hs
    clear hs
    have HJ := Lib.hid (join_any g o n c l w1 HL.out hn (Nat.lt_of_lt_of_le HG.out HB.out.size) (tks_below HH.out HB.out HG.out) HS.out)
    by_cases hgood : (∀ i, i < n → tkB (l[i]?.getD default) = true) ∧ (jT l n).length ≤ 20000
    · obtain ⟨M, hM1, hM2, hM3, hM4, hM5⟩ := back_toks HL.out hgood.1 HS.out hgood.2
      have hJ := HJ.out
      rw [jR_ok hgood.1 (by omega)] at hJ
      obtain ⟨s, hsx⟩ : ∃ s : ByteArray, s = ⟨(jT l n).toArray⟩ := ⟨_, rfl⟩
      rw [← hsx] at hJ hM3
      have HJ := Lib.hid hJ
      have HX := Lib.hid (fun W => lex_cells s M n W (by rw [hsx, ← data_len]; exact hgood.2) (by rw [hsx]; exact hM2) hM1 (by omega))
      have HM1 := Lib.hid hM1
      have HM3 := Lib.hid hM3
      have HM4 := Lib.hid hM4
      have HM5 := Lib.hid hM5
      have hsz : s.size ≤ 20000 := by rw [hsx, ← data_len]; exact hgood.2
      clear hM1 hM2 hM3 hM4 hM5 hgood hJ hsx
      go_wp2_with fail
      refine HJ.out.mono ?_
      rintro e w2 ⟨rfl, hb⟩
      have HB2 := Lib.hid (HB.out.trans (hb.mono HB.out.size))
      clear hb
      go_wp2_with fail
      refine (HX.out _).mono ?_
      rintro e w3 ⟨g1, c1, hc1, rfl, hrow1, k1, hg1, hb⟩
      have HB3 := Lib.hid (HB2.out.trans (hb.mono HB2.out.size))
      have HK := Lib.hid (join_any g1 0 n c1 M w3 HM1.out hn hg1 (tks_of_row hrow1) HM4.out)
      have HROW := Lib.hid hrow1
      have HK := Lib.hid (HM3.out ▸ HK.out)
      clear hb hrow1 k1
      go_wp2_with fail
      refine HK.out.mono ?_
      rintro e w4 ⟨rfl, hb⟩
      have HB4 := Lib.hid (HB3.out.trans (hb.mono HB3.out.size))
      have HSM := Lib.hid (same_like g1 0 g o c1 c n M l w4 HM1.out HL.out (by omega) (Nat.lt_of_lt_of_le hg1 hb.size) (Nat.lt_of_lt_of_le HG.out HB4.out.size) (tks_below (tks_of_row HROW.out) hb hg1) (tks_below HH.out HB4.out HG.out) HM5.out)
      clear hb
      go_wp2_with fail
      refine HSM.out.mono ?_
      rintro e w5 ⟨rfl, hb⟩
      have HB5 := Lib.hid (HB4.out.trans (hb.mono HB4.out.size))
      clear hb
      go_wp2_with fail
      go_ret
      exact ⟨rfl, HB5.out⟩
    · obtain ⟨er, her, hJR⟩ := jR_err hgood
      have hJ := HJ.out
      rw [hJR] at hJ
      have HJ := Lib.hid hJ
      have he1 : (er != 0) = true := by simpa using her
      clear hgood her hJR hJ
      go_wp2_with fail
      refine HJ.out.mono ?_
      rintro e w2 ⟨rfl, hb⟩
      have HB2 := Lib.hid (HB.out.trans (hb.mono HB.out.size))
      clear hb
      go_wp2_with fail
      go_ret
      exact ⟨rfl, HB2.out⟩

end Go.Proofs.YtnmiiimbjojcmaaDoor
