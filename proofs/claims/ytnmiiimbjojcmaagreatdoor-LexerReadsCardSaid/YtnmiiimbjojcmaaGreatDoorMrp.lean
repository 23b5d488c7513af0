/-
  The law LexerReads walked. No condition.
-/
import Derived.Test.YtnmiiimbjojcmaaGreatDoorMro
import Derived.Test.YtnmiiimbjojcmaaGreatDoorWb
namespace Go.Proofs.YtnmiiimbjojcmaaGreatDoor
open Go.RowKit Go.Shelf
set_option linter.unusedVariables false

theorem row_owns {w : World} {base size : Nat} {e : TypeId} {v : Value} {n : Nat} {xs : List Value} (h : w.ownsRow base e size v n xs) :
    (∃ c, v = .slice none 0 c ∧ n = 0 ∧ xs = []) ∨ ∃ g cap, v = .slice (some ⟨g, 0, none⟩) n cap ∧ g < w.heap.size ∧ RowAt w g e xs := by
  obtain ⟨h1, h2⟩ := h
  rcases h2 with ⟨rfl, rfl⟩ | ⟨g, cap, cur, rfl, hb, hg, hn, hm, hs, ht⟩
  · exact .inl ⟨0, rfl, rfl, List.eq_nil_of_length_eq_zero (by simpa using h1)⟩
  · have hle : n * size ≤ cap * size := Nat.mul_le_mul_right _ hn
    have hr : RowAt w g e xs := ⟨cur, hg, by omega, fun i hi => by
      rw [← ht, List.getElem?_take_of_lt (by omega)]
      simp⟩
    exact .inr ⟨g, cap, rfl, hr.lt, hr⟩
/-- Same, of two equal lists. -/
theorem same_rows {b1 b2 n : Nat} {v1 v2 : Value} {l : List Tk} {w : World} (hn : n ≤ 1000000) (h1 : w.ownsRow b1 40 5 v1 n (tks l)) (h2 : w.ownsRow b2 40 5 v2 n (tks l)) :
    Calls Tryz.prog 9 #[v1, v2, .bool true] w (BelB w true) := by
  have hl : l.length = n := by have := h1.1; rw [tks_length] at this; omega
  rcases row_owns h1 with ⟨k1, rfl, rfl, _⟩ | ⟨g1, c1, rfl, hg1, r1⟩
  · rcases row_owns h2 with ⟨k2, rfl, _, _⟩ | ⟨g2, c2, rfl, hg2, r2⟩
    · exact same_zero _ _ _ _ w
    · exact same_zero _ _ _ _ w
  · rcases row_owns h2 with ⟨k2, rfl, rfl, _⟩ | ⟨g2, c2, rfl, hg2, r2⟩
    · exact same_zero _ _ _ _ w
    · exact same_tk g1 0 g2 0 c1 c2 n l w hl hn hg1 hg2 (tks_of_row r1) (tks_of_row r2)
/-- Too long, or of a length that the law leaves out. -/
theorem long_rf (s : ByteArray) (w : World) (hs : s.size ≤ 1000000 ∨ 20100 < s.size) : Calls Tryz.prog 4 #[.string s] w (RetB w (decide ((3000 < s.size ∧ s.size ≤ 20000) ∨ 20100 < s.size))) := by
  rcases (show s.size ≤ 3000 ∨ (3000 < s.size ∧ s.size ≤ 20000) ∨ (20000 < s.size ∧ s.size ≤ 20100) ∨ 20100 < s.size by omega) with h | ⟨h, h2⟩ | ⟨h, h2⟩ | h
  · rw [decide_eq_false (by omega)]
    have d1 : decide ((3000 : Int) < (s.size : Int)) = false := by simp; omega
    have d3 : decide ((20100 : Int) < (s.size : Int)) = false := by simp; omega
    go_enter Tryz.func4, Tryz.ntmps4
    go_wp2_with fail
    go_ret
    exact ⟨rfl, rfl⟩
  · rw [decide_eq_true (by omega)]
    have d1 : decide ((3000 : Int) < (s.size : Int)) = true := by simp; omega
    have d2 : decide ((s.size : Int) ≤ 20000) = true := by simp; omega
    go_enter Tryz.func4, Tryz.ntmps4
    go_wp2_with fail
    go_ret
    exact ⟨rfl, rfl⟩
  · rw [decide_eq_false (by omega)]
    have d1 : decide ((3000 : Int) < (s.size : Int)) = true := by simp; omega
    have d2 : decide ((s.size : Int) ≤ 20000) = false := by simp; omega
    have d3 : decide ((20100 : Int) < (s.size : Int)) = false := by simp; omega
    go_enter Tryz.func4, Tryz.ntmps4
    go_wp2_with fail
    go_ret
    exact ⟨rfl, rfl⟩
  · rw [decide_eq_true (by omega)]
    have d1 : decide ((3000 : Int) < (s.size : Int)) = true := by simp; omega
    have d2 : decide ((s.size : Int) ≤ 20000) = false := by simp; omega
    have d3 : decide ((20100 : Int) < (s.size : Int)) = true := by simp; omega
    go_enter Tryz.func4, Tryz.ntmps4
    go_wp2_with fail
    go_ret
    exact ⟨rfl, rfl⟩
theorem preL_yesG {ts : List Tk} {R : LexR} {us : List Tk} (h : preL ts R = .yes us) : ∃ vs, R = .yes vs ∧ us = ts ++ vs := by
  cases R with
  | no i e => cases h
  | yes vs => injection h with h; exact ⟨vs, rfl, h.symm⟩
theorem lex_count : ∀ (n off : Nat) (l : List UInt8), l.length ≤ n → ∀ {ts : List Tk}, lexL off l = .yes ts → ts.length ≤ l.length := by
  intro n
  induction n with
  | zero =>
    intro off l hl ts h
    obtain rfl : l = [] := List.length_eq_zero_iff.1 (by omega)
    rw [lexL_end (l := []) rfl] at h; injection h with h; rw [← h]; exact Nat.le_refl _
  | succ n ih =>
    intro off l hl ts h
    rcases Nat.lt_or_ge (skS false l) l.length with hlt | hge
    · cases ho : oneL (l.drop (skS false l)) with
      | no e => rw [lexL_no hlt ho] at h; cases h
      | yes t m =>
        rw [lexL_yes hlt ho, pre1_eq] at h
        obtain ⟨vs, hv, rfl⟩ := preL_yesG h
        have hm := oneL_pos ho
        have hm2 := oneL_le ho
        rw [List.length_drop] at hm2
        have := ih _ (l.drop (skS false l + m)) (by rw [List.length_drop]; omega) hv
        rw [List.length_drop] at this
        rw [List.length_append, List.length_singleton]
        omega
    · have hf : skS false l = l.length := by have := skS_le false l; omega
      rw [lexL_end hf] at h; injection h with h; rw [← h]; exact Nat.zero_le _
theorem places_eq (s : ByteArray) (z : Int) (hs : s.size ≤ 1000000) : ∃ a b c : Int, Hid (∀ W, Calls Tryz.prog 7 #[.string s, .int .i64 z] W (PlPost W a b c)) ∧ Hid (∀ W, Calls Tryz.prog 8 #[.string s, .int .i64 z] W (PlPost W a b c)) := by
  by_cases h : z < 0 ∨ (s.size : Int) < z
  · exact ⟨0, 0, 2, Lib.hid fun W => place_bad s z W h, Lib.hid fun W => rplace_bad s z W h⟩
  · obtain ⟨k, rfl⟩ : ∃ k : Nat, z = (k : Int) := ⟨z.toNat, by omega⟩
    exact ⟨_, _, _, Lib.hid fun W => place_ok s k W hs (by omega), Lib.hid fun W => rplace_ok s k W hs (by omega)⟩

set_option maxHeartbeats 2000000 in
theorem reads_skip (s : ByteArray) (z : Int) (w : World) (h : (3000 < s.size ∧ s.size ≤ 20000) ∨ 20100 < s.size) : Calls Tryz.prog 3 #[.string s, .int .i64 z] w (BelB w true) := by
  have HL := Lib.hid (fun W => long_rf s W (by omega))
  rw [decide_eq_true h] at HL
  go_enter Tryz.func3, Tryz.ntmps3
  go_wp2_with fail
  refine (HL.out _).mono ?_
  rintro e w' ⟨rfl, rfl⟩
  go_wp2_with fail
  go_ret
  exact ⟨rfl, Below.refl _ _⟩
set_option maxHeartbeats 4000000 in
theorem reads_long (s : ByteArray) (z : Int) (w : World) (h1 : 20000 < s.size) (h2 : s.size ≤ 20100) : Calls Tryz.prog 3 #[.string s, .int .i64 z] w (BelB w true) := by
  have HL := Lib.hid (fun W => long_rf s W (by omega))
  rw [decide_eq_false (by omega)] at HL
  have HX := Lib.hid (fun W => lex_long s W h1 (by omega))
  have HY := Lib.hid (fun W => rlex_long s W h1)
  obtain ⟨a, b, c, HP, HQ⟩ := places_eq s z (by omega)
  go_enter Tryz.func3, Tryz.ntmps3
  go_wp2_with fail
  refine (HL.out _).mono ?_
  rintro e w' ⟨rfl, rfl⟩
  go_wp2_with fail
  refine (HX.out _).mono ?_
  rintro e w1 ⟨rfl, hb⟩
  have HB := Lib.hid hb
  clear hb
  go_wp2_with fail
  refine (HY.out _).mono ?_
  rintro e w2 ⟨rfl, hb⟩
  have HB2 := Lib.hid (HB.out.trans (hb.mono HB.out.size))
  clear hb
  go_wp2_with fail
  refine (HP.out _).mono ?_
  rintro e w' ⟨rfl, rfl⟩
  go_wp2_with fail
  refine (HQ.out _).mono ?_
  rintro e w' ⟨rfl, rfl⟩
  go_wp2_with fail
  refine (same_zero _ _ _ _ _).mono ?_
  rintro e w3 ⟨rfl, hb⟩
  have HB3 := Lib.hid (HB2.out.trans (hb.mono HB2.out.size))
  clear hb
  go_wp2_with fail
  go_ret
  exact ⟨rfl, HB3.out⟩
set_option maxHeartbeats 4000000 in
theorem reads_short (s : ByteArray) (z : Int) (w : World) (h1 : s.size ≤ 3000) : Calls Tryz.prog 3 #[.string s, .int .i64 z] w (BelB w true) := by
  have HL := Lib.hid (fun W => long_rf s W (by omega))
  rw [decide_eq_false (by omega)] at HL
  obtain ⟨a, b, c, HP, HQ⟩ := places_eq s z (by omega)
  cases hR : lexL 0 s.data.toList with
  | no i er =>
    have HX : Hid (∀ W, Calls Tryz.prog 5 #[.string s] W (fun e w' => e = .returned (.tuple #[.slice none 0 0, .int .i64 (i : Int), .int .i64 er]) ∧ Below W.heap.size W w')) := fun W => (lex_any s W (by omega)).mono (by
      rintro e w' (⟨i2, er2, h, rfl, hb⟩ | ⟨ts, v, h, _⟩)
      · rw [hR] at h; injection h with h1 h2; subst h1 h2; exact ⟨rfl, hb⟩
      · rw [hR] at h; cases h)
    have HY : Hid (∀ W, Calls Tryz.prog 6 #[.string s] W (fun e w' => e = .returned (.tuple #[.slice none 0 0, .int .i64 (i : Int), .int .i64 er]) ∧ Below W.heap.size W w')) := fun W => (rlex_any s W (by omega)).mono (by
      rintro e w' (⟨i2, er2, h, rfl, hb⟩ | ⟨ts, v, h, _⟩)
      · rw [hR] at h; injection h with h1 h2; subst h1 h2; exact ⟨rfl, hb⟩
      · rw [hR] at h; cases h)
    clear hR
    go_enter Tryz.func3, Tryz.ntmps3
    go_wp2_with fail
    refine (HL.out _).mono ?_
    rintro e w' ⟨rfl, rfl⟩
    go_wp2_with fail
    refine (HX.out _).mono ?_
    rintro e w1 ⟨rfl, hb⟩
    have HB := Lib.hid hb
    clear hb
    go_wp2_with fail
    refine (HY.out _).mono ?_
    rintro e w2 ⟨rfl, hb⟩
    have HB2 := Lib.hid (HB.out.trans (hb.mono HB.out.size))
    clear hb
    go_wp2_with fail
    refine (HP.out _).mono ?_
    rintro e w' ⟨rfl, rfl⟩
    go_wp2_with fail
    refine (HQ.out _).mono ?_
    rintro e w' ⟨rfl, rfl⟩
    go_wp2_with fail
    refine (same_zero _ _ _ _ _).mono ?_
    rintro e w3 ⟨rfl, hb⟩
    have HB3 := Lib.hid (HB2.out.trans (hb.mono HB2.out.size))
    clear hb
    go_wp2_with fail
    go_ret
    exact ⟨rfl, HB3.out⟩
  | yes ts =>
    have hcnt : ts.length ≤ s.size := by rw [← data_len]; exact lex_count _ 0 _ (Nat.le_refl _) hR
    have HX : Hid (∀ W, Calls Tryz.prog 5 #[.string s] W (fun e w' => ∃ v, e = .returned (.tuple #[v, .int .i64 (s.size : Int), .int .i64 0]) ∧ w'.ownsRow W.heap.size 40 5 v ts.length (tks ts) ∧ Below W.heap.size W w')) := fun W => (lex_any s W (by omega)).mono (by
      rintro e w' (⟨i2, er2, h, _⟩ | ⟨ts2, v, h, rfl, ho, hb⟩)
      · rw [hR] at h; cases h
      · rw [hR] at h; injection h with h; subst h; exact ⟨v, rfl, ho, hb⟩)
    have HY : Hid (∀ W, Calls Tryz.prog 6 #[.string s] W (fun e w' => ∃ v, e = .returned (.tuple #[v, .int .i64 (s.size : Int), .int .i64 0]) ∧ w'.ownsRow W.heap.size 40 5 v ts.length (tks ts) ∧ Below W.heap.size W w')) := fun W => (rlex_any s W (by omega)).mono (by
      rintro e w' (⟨i2, er2, h, _⟩ | ⟨ts2, v, h, rfl, ho, hb⟩)
      · rw [hR] at h; cases h
      · rw [hR] at h; injection h with h; subst h; exact ⟨v, rfl, ho, hb⟩)
    clear hR
    go_enter Tryz.func3, Tryz.ntmps3
    go_wp2_with fail
    refine (HL.out _).mono ?_
    rintro e w' ⟨rfl, rfl⟩
    go_wp2_with fail
    refine (HX.out _).mono ?_
    rintro e w1 ⟨v1, rfl, ho1, hb⟩
    have HB := Lib.hid hb
    have HO1 := Lib.hid ho1
    clear hb ho1
    go_wp2_with fail
    refine (HY.out _).mono ?_
    rintro e w2 ⟨v2, rfl, ho2, hb⟩
    have HB2 := Lib.hid (HB.out.trans (hb.mono HB.out.size))
    have HO1 := Lib.hid (HO1.out.kept (grown_of_below hb) (Classical.em _))
    have HO2 := Lib.hid ho2
    clear hb ho2
    go_wp2_with fail
    refine (HP.out _).mono ?_
    rintro e w' ⟨rfl, rfl⟩
    go_wp2_with fail
    refine (HQ.out _).mono ?_
    rintro e w' ⟨rfl, rfl⟩
    go_wp2_with fail
    refine (same_rows (by omega) HO1.out HO2.out).mono ?_
    rintro e w3 ⟨rfl, hb⟩
    have HB3 := Lib.hid (HB2.out.trans (hb.mono HB2.out.size))
    clear hb
    go_wp2_with fail
    go_ret
    exact ⟨rfl, HB3.out⟩
theorem reads_any (s : ByteArray) (z : Int) (w : World) : Calls Tryz.prog 3 #[.string s, .int .i64 z] w (BelB w true) := by
  rcases (show s.size ≤ 3000 ∨ ((3000 < s.size ∧ s.size ≤ 20000) ∨ 20100 < s.size) ∨ (20000 < s.size ∧ s.size ≤ 20100) by omega) with h | h | h
  · exact reads_short s z w h
  · exact reads_skip s z w h
  · exact reads_long s z w h.1 h.2

end Go.Proofs.YtnmiiimbjojcmaaGreatDoor
