/-
  The reference's Lex and Place walked, given its One. No condition.
-/
import Derived.Test.YtnmiiimbjojcmaaGreatDoorXh
import Derived.Test.YtnmiiimbjojcmaaGreatDoorMra
import Derived.Test.YtnmiiimbjojcmaaGreatDoorXe
import Derived.Deep.OwnRows
namespace Go.Proofs.YtnmiiimbjojcmaaGreatDoor
open Go.RowKit Go.Shelf
set_option linter.unusedVariables false

/-- The loop of the reference's Lex. -/
def RLxR (w : World) (s : ByteArray) (R : LexR) (lv iv : Value) (wr : World) : Prop :=
  ∃ (ts : List Tk) (k T : Nat), k ≤ s.size ∧ ts.length ≤ k ∧ iv = .int .i64 (T : Int) ∧ T ≤ s.size ∧ Hid (T = k + skS false (s.data.toList.drop k) ∧ preL ts (lexL k (s.data.toList.drop k)) = R) ∧ wr.ownsRow w.heap.size 40 5 lv ts.length (tks ts) ∧ Below w.heap.size w wr

set_option maxHeartbeats 4000000 in
set_option maxRecDepth 100000 in
theorem rlex_go (s : ByteArray) (w : World) (hs : s.size ≤ 20000) (R : LexR) (hR : lexL 0 s.data.toList = R)
    (HONE : Hid (∀ (T : Nat) (W : World), T < s.size → Calls Tryz.prog 13 #[.string s, .int .i64 (T : Int)] W (OnePost W T (oneL (s.data.toList.drop T))))) :
    Calls Tryz.prog 6 #[.string s] w (LexPost w s.size R) := by
  obtain ⟨i0, hi, hz0, hz1, hz2⟩ := info_partsN infoTk
  have HRR := Lib.hid hR
  clear hR
  have HSK : Hid (∀ (k : Nat) (W : World), k ≤ s.size → ∃ T : Nat, T = k + skS false (s.data.toList.drop k) ∧ T ≤ s.size ∧ Calls Tryz.prog 12 #[.string s, .int .i64 (k : Int)] W (RetI W (T : Int))) := fun k W hk =>
    ⟨_, rfl, by have := skS_le false (s.data.toList.drop k); rw [List.length_drop, data_len] at this; omega, skip_any s k W (by omega) hk⟩
  obtain ⟨T0, e0, l0, hS0⟩ := HSK.out 0 w (Nat.zero_le _)
  have HE0 := Lib.hid e0
  have HS0 : Hid (Calls Tryz.prog 12 #[.string s, .int .i64 0] w (RetI w (T0 : Int))) := hS0
  clear e0 hS0
  have hgt : decide ((20000 : Int) < (s.size : Int)) = false := by simp; omega
  go_enter Tryz.func6, Tryz.ntmps6
  go_wp2_with fail
  refine HS0.out.mono ?_
  rintro e w' ⟨rfl, rfl⟩
  go_wp2_with fail
  go_loopw [5, 6] (fun lv iv wr => RLxR w s R lv iv wr) (fun _ iv _ => s.size - (intOf iv).toNat)
  case atStart => exact ⟨[], 0, T0, Nat.zero_le _, Nat.zero_le _, rfl, l0, Lib.hid ⟨HE0.out, by rw [List.drop_zero, preL_nil]; exact HRR.out⟩, World.ownsRow_nil _ _ _ _, Below.refl _ _⟩
  case round =>
    obtain ⟨w1, rfl⟩ : ∃ w1 : World, w1 = wr := ⟨_, rfl⟩
    obtain ⟨ts, k, T, hk, hlen, rfl, hT, HKT, how, hb⟩ := hrel
    have HOW := Lib.hid how
    have HB := Lib.hid hb
    clear how hb HS0 HE0 l0
    by_cases hlt : T < s.size
    · have hone := HONE.out T w1 hlt
      have hsk : skS false (s.data.toList.drop k) < (s.data.toList.drop k).length := by rw [List.length_drop, data_len]; have := HKT.out.1; omega
      have hdd : (s.data.toList.drop k).drop (skS false (s.data.toList.drop k)) = s.data.toList.drop T := by rw [List.drop_drop, ← HKT.out.1]
      have HSKL := Lib.hid hsk
      have HDD := Lib.hid hdd
      clear hsk hdd
      cases hR1 : oneL (s.data.toList.drop T) with
      | no er =>
        have he : (er != 0) = true := by simpa using oneL_err hR1
        have HF : Hid (R = .no T er) := by
          have h1 := lexL_no (off := k) HSKL.out (by rw [HDD.out]; exact hR1)
          rw [← HKT.out.2, h1, ← HKT.out.1]; rfl
        rw [hR1] at hone
        have HO := Lib.hid hone
        clear hR1 hone
        go_wp2_with fail
        refine HO.out.mono ?_
        rintro e w2 ⟨⟨K, TT, Q, D, en, rfl⟩, hb2⟩
        have HB2 := Lib.hid ((HB.out.trans (hb2.mono HB.out.size)))
        clear hb2
        go_wp2_with fail
        refine bodyPost_ret (results_tmp3 rfl _ _ _) rfl ?_
        exact .inl ⟨T, er, HF.out, rfl, HB2.out.alloc HB2.out.size _⟩
      | yes t n =>
        have hm1 := oneL_pos hR1
        have hm2 : T + n ≤ s.size := by have := oneL_le hR1; rw [List.length_drop, data_len] at this; omega
        have hx1 : preL (ts ++ [{ t with place := (T : Int) }]) (lexL (T + n) (s.data.toList.drop (T + n))) = R := by
          have h1 := lexL_yes (off := k) HSKL.out (by rw [HDD.out]; exact hR1)
          rw [← HKT.out.1] at h1
          rw [← HKT.out.2, h1, preL_pre1, List.drop_drop, ← Nat.add_assoc, ← HKT.out.1]
        have HX1 := Lib.hid hx1
        clear hx1
        rw [hR1] at hone
        have HO := Lib.hid hone
        obtain ⟨T2, e2, l2, hS2⟩ : ∃ T2 : Nat, T2 = T + n + skS false (s.data.toList.drop (T + n)) ∧ T2 ≤ s.size ∧ Hid (∀ W, Calls Tryz.prog 12 #[.string s, .int .i64 ((T + n : Nat) : Int)] W (RetI W (T2 : Int))) :=
          ⟨_, rfl, by have := skS_le false (s.data.toList.drop (T + n)); rw [List.length_drop, data_len] at this; omega, Lib.hid (fun W => skip_any s (T + n) W (by omega) hm2)⟩
        have HE2 := Lib.hid e2
        have hT2 : T < T2 := by omega
        have htl : ts.length ≤ T := by have := HKT.out.1; omega
        obtain ⟨E, hE⟩ : ∃ E, E = T + n := ⟨_, rfl⟩
        rw [← hE] at HX1 hS2 hm2
        have HEE := Lib.hid hE
        have hET : T < E := by omega
        clear hR1 hone e2 hm1 hE
        obtain ⟨x, hx⟩ : ∃ x : Tk, x = { t with place := (T : Int) } := ⟨_, rfl⟩
        rw [← hx] at HX1
        have HO2 : Hid (Obj.cells #[.int .u8 t.kind, .string t.text, .string t.rat, .int .i64 t.date, .int .i64 (T : Int)] 40 = .cells (encTk x).toArray 40) := by rw [hx]; rfl
        clear hx
        have HO := Lib.hid (show Calls Tryz.prog 13 #[.string s, .int .i64 (T : Int)] w1 (fun e w' => e = .returned (.tuple #[.agg #[.int .u8 t.kind, .string t.text, .string t.rat, .int .i64 t.date, .int .i64 (T : Int)], .int .i64 (E : Int), .int .i64 0]) ∧ Below w1.heap.size w1 w') from HO.out.mono fun e w' ⟨h1, h2⟩ => ⟨by rw [HEE.out]; exact h1, h2⟩)
        go_wp2_with fail
        refine HO.out.mono ?_
        rintro e w2 ⟨rfl, hb2⟩
        have HB2 := Lib.hid (HB.out.trans (hb2.mono HB.out.size))
        have HOW2 := Lib.hid (HOW.out.kept (grown_of_below hb2) (Classical.em _))
        clear hb2
        have HOA := Lib.hid ((HOW2.out.alloc (.cells #[.int .u8 t.kind, .string t.text, .string t.rat, .int .i64 t.date, .int .i64 (T : Int)] 40)).alloc (.cells #[.int .u8 t.kind, .string t.text, .string t.rat, .int .i64 t.date, .int .i64 (T : Int)] 40))
        go_wp2_with (at_builtin; refine wpList_append_own _ rfl (.tmp 30) (.tmp 32) 23 rfl w.heap.size 40 i0 zeroTk 5 56 Tryz.underlying23 hi hz0 hz1 hz2 rfl (by decide) _ _ _ rfl HOA.out ⟨w2.heap.size + 1, 0, none⟩ 1 1 (encTk x) rfl ?c0 ?c1 ?c2 ?c3 ?c4 ?c5 ?_)
        case c0 => rfl
        case c1 => rw [HO2.out]; exact tk_cells _ _ (by simp) x _
        case c2 => exact enc_one _
        case c3 => unfold maxLen; omega
        case c4 => omega
        case c5 => have := HB2.out.size; simp; omega
        intro v' w3 hown' hgrow _
        have hb3 := HB2.out.alloc HB2.out.size (.cells #[.int .u8 t.kind, .string t.text, .string t.rat, .int .i64 t.date, .int .i64 (T : Int)] 40)
        have hb4 := hb3.alloc hb3.size (.cells #[.int .u8 t.kind, .string t.text, .string t.rat, .int .i64 t.date, .int .i64 (T : Int)] 40)
        have B3 := Lib.hid (hb4.grown hgrow hb4.size (fun j hj => (HOA.out.lt j hj).1))
        have h1 := hown'
        rw [tks_snoc] at h1
        have HO3 := Lib.hid h1
        clear hown' hgrow hb3 hb4 h1
        go_wp2_with fail
        refine (hS2.out _).mono ?_
        rintro e w' ⟨rfl, rfl⟩
        go_wp2_with fail
        go_roundw
        case rel => exact ⟨ts ++ [x], E, T2, hm2, by rw [List.length_append]; show ts.length + 1 ≤ E; omega, rfl, l2, Lib.hid ⟨by rw [HE2.out, HEE.out], HX1.out⟩, by rw [List.length_append]; exact HO3.out, B3.out⟩
        case measure => simp [intOf] <;> omega
    · have hTs : T = s.size := by omega
      have hF : R = .yes ts := by
        have e : skS false (s.data.toList.drop k) = (s.data.toList.drop k).length := by rw [List.length_drop, data_len]; have := HKT.out.1; omega
        have h2 := HKT.out.2
        rw [lexL_end e] at h2
        rw [← h2]; simp [preL]
      have HF := Lib.hid hF
      clear hF
      subst hTs
      go_wp2_with fail
      refine bodyPost_ret (results_tmp3 rfl _ _ _) rfl ?_
      exact .inr ⟨ts, _, HF.out, rfl, HOW.out, HB.out⟩

/-- The reference's Lex of a too long text. -/
theorem rlex_long (s : ByteArray) (w : World) (hs : 20000 < s.size) : Calls Tryz.prog 6 #[.string s] w (LexLong w) := by
  have hgt : decide ((20000 : Int) < (s.size : Int)) = true := by simp; omega
  go_enter Tryz.func6, Tryz.ntmps6
  go_wp2_with fail
  refine bodyPost_ret (results_tmp3 rfl _ _ _) rfl ?_
  exact ⟨rfl, Below.refl _ _⟩

/-- The reference's Place. -/
theorem rplace_bad (s : ByteArray) (z : Int) (w : World) (h : z < 0 ∨ (s.size : Int) < z) : Calls Tryz.prog 8 #[.string s, .int .i64 z] w (PlPost w 0 0 2) := by
  by_cases h0 : z < 0
  · go_enter Tryz.func8, Tryz.ntmps8
    go_wp2_with fail
    refine bodyPost_ret (results_tmp3 rfl _ _ _) rfl ?_
    exact ⟨rfl, rfl⟩
  · have h1 : (s.size : Int) < z := by omega
    go_enter Tryz.func8, Tryz.ntmps8
    go_wp2_with fail
    refine bodyPost_ret (results_tmp3 rfl _ _ _) rfl ?_
    exact ⟨rfl, rfl⟩
def RPlR (s : ByteArray) (K : Nat) (lv cv iv : Value) : Prop := ∃ (j : Nat) (a : Nat) (b : Int), j ≤ K ∧ iv = .int .i64 (j : Int) ∧ lv = .int .i64 (a : Int) ∧ cv = .int .i64 b ∧ a ≤ j + 1 ∧ 0 ≤ b ∧ b ≤ (j : Int) + 1 ∧ Hid (a = plnN s j ∧ b = plcZ s j)
set_option maxHeartbeats 1000000 in
theorem rplace_ok (s : ByteArray) (k : Nat) (w : World) (hs : s.size ≤ 1000000) (h : k ≤ s.size) : Calls Tryz.prog 8 #[.string s, .int .i64 (k : Int)] w (PlPost w (plnN s k : Int) (plcZ s k) 0) := by
  obtain ⟨A, hA⟩ : ∃ A, A = plnN s k := ⟨_, rfl⟩
  obtain ⟨B, hB⟩ : ∃ B, B = plcZ s k := ⟨_, rfl⟩
  rw [← hA, ← hB]
  have HA := Lib.hid hA
  have HB := Lib.hid hB
  clear hA hB
  go_enter Tryz.func8, Tryz.ntmps8
  go_wp2_with fail
  go_loop [7, 8, 9] (fun lv cv iv => RPlR s k lv cv iv) (fun _ _ iv => k - (intOf iv).toNat)
  case atStart => exact ⟨0, 1, 1, Nat.zero_le _, rfl, rfl, rfl, by omega, by omega, by omega, Lib.hid ⟨rfl, rfl⟩⟩
  case round =>
    obtain ⟨j, a, b, hj, rfl, rfl, rfl, ha, hb0, hb, HJ⟩ := hrel
    by_cases hlt : j < k
    · have hjs : j < s.size := by omega
      obtain ⟨n1, n2⟩ := place_next s j hjs
      have hc : s[j].toNat = 10 ↔ s[j] = 10 := by rw [← UInt8.toNat_inj]; rfl
      by_cases h10 : s[j].toNat = 10
      · have t1 : ((s[j].toNat : Int) == 10) = true := by simp; omega
        have HX : Hid (a + 1 = plnN s (j + 1) ∧ (1 : Int) = plcZ s (j + 1)) := by
          obtain ⟨e1, e2⟩ := n1 (hc.1 h10)
          exact ⟨by rw [e1, ← HJ.out.1], e2.symm⟩
        clear n1 n2 hc h10
        go_wp2_with fail
        go_round
        case rel => exact ⟨j + 1, a + 1, 1, by omega, by go_num, by go_num, rfl, by omega, by omega, by omega, HX⟩
        case measure => simp [intOf] <;> omega
      · have t1 : ((s[j].toNat : Int) == 10) = false := by simp; omega
        have HX : Hid (a = plnN s (j + 1) ∧ b + 1 = plcZ s (j + 1)) := by
          obtain ⟨e1, e2⟩ := n2 (fun e => h10 (hc.2 e))
          exact ⟨by rw [e1, ← HJ.out.1], by rw [e2, ← HJ.out.2]⟩
        clear n1 n2 hc h10
        go_wp2_with fail
        go_round
        case rel => exact ⟨j + 1, a, b + 1, by omega, by go_num, rfl, rfl, by omega, by omega, by omega, HX⟩
        case measure => simp [intOf] <;> omega
    · obtain rfl : j = k := by omega
      have e1 : a = A := by rw [HJ.out.1, HA.out]
      have e2 : b = B := by rw [HJ.out.2, HB.out]
      subst e1 e2
      go_wp2_with fail
      refine bodyPost_ret (results_tmp3 rfl _ _ _) rfl ?_
      exact ⟨rfl, rfl⟩

end Go.Proofs.YtnmiiimbjojcmaaGreatDoor
