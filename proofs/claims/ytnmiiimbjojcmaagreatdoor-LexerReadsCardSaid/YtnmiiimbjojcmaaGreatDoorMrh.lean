/-
  The reference's number of a text: walked. No condition.
-/
import Derived.Test.YtnmiiimbjojcmaaGreatDoorMrg
namespace Go.Proofs.YtnmiiimbjojcmaaGreatDoor
open Go.RowKit Go.Shelf
set_option linter.unusedVariables false

set_option maxHeartbeats 4000000 in
set_option maxRecDepth 100000 in
theorem num_walk0p (s F B Q : ByteArray) (i A E : Nat) (R : OneR) (z : Bool) (w : World) (hs : s.size ≤ 100000) (hi : i < s.size) (hk : i ≤ A) (hA : A ≤ s.size) (t45 : ((s[i].toNat : Int) == 45) = false) (HR1 : Hid (∀ W, Calls Tryz.prog 49 #[.string s, .int .i64 (i : Int)] W (RetI W (A : Int)))) (hF : s.extract i A = F) (hF0 : 0 < F.size) (hAs : A < s.size) (t46 : ((s[A].toNat : Int) == 46) = true) (HD : Hid (∀ W, Calls Tryz.prog 33 #[.string s, .int .i64 ((A : Int) + 1)] W (RetB W true))) (HR2 : Hid (∀ W, Calls Tryz.prog 49 #[.string s, .int .i64 ((A : Int) + 1)] W (RetI W (E : Int)))) (hE1 : A + 1 ≤ E) (hE2 : E ≤ s.size) (hB : s.extract (A + 1) E = B) (hB0 : 0 < B.size) (h8 : (s[A].toNat : Int) = 46) (HE : Hid (∀ W, Calls Tryz.prog 30 #[.string s, .int .i64 (E : Int)] W (RetB W z))) (H12 : Hid (z = false ∨ (1 < F.size ∧ F[0].toNat = 48) → R = .no 12)) (H14 : Hid (z = true → ¬ (1 < F.size ∧ F[0].toNat = 48) → 1000 < F.size + B.size → R = .no 14)) (HOK : Hid (z = true → ¬ (1 < F.size ∧ F[0].toNat = 48) → ¬ 1000 < F.size + B.size → R = .yes ⟨3, ⟨#[]⟩, Q, 0, 0⟩ (E - i) ∧ ∀ W, Calls Tryz.prog 50 #[.bool false, .string F, .int .u8 46, .string B] W (StE W Q 0))) :
    Calls Tryz.prog 34 #[.string s, .int .i64 (i : Int)] w (OnePost w i R) := by
  have hFs : F.size ≤ 100000 := by rw [← hF]; simp; omega
  have hBs : B.size ≤ 100000 := by rw [← hB]; simp; omega
  have HF := Lib.hid hF
  clear hF
  have HBB := Lib.hid hB
  have H8 := Lib.hid h8
  clear hB h8
  go_enter Tryz.func34, Tryz.ntmps34
  go_wp2_with fail
  refine (HR1.out _).mono ?_
  rintro e w' ⟨rfl, rfl⟩
  obtain ⟨W2, hW2⟩ : ∃ W2, W2 = (w.alloc (.cells #[.int .u8 0, .string ⟨#[]⟩, .string ⟨#[]⟩, .int .i64 0, .int .i64 0] 40)).alloc (.cells #[.int .u8 3, .string ⟨#[]⟩, .string ⟨#[]⟩, .int .i64 0, .int .i64 (i : Int)] 40) := ⟨_, rfl⟩
  have hg : W2.heap[w.heap.size]? = some (.cells #[.int .u8 0, .string ⟨#[]⟩, .string ⟨#[]⟩, .int .i64 0, .int .i64 0] 40) := by rw [hW2]; exact two_first ..
  have ht : W2.heap[w.heap.size + 1]? = some (.cells #[.int .u8 3, .string ⟨#[]⟩, .string ⟨#[]⟩, .int .i64 0, .int .i64 (i : Int)] 40) := by rw [hW2]; exact two_next ..
  have hbel : Below w.heap.size w W2 := by rw [hW2]; exact (own_below w _).alloc (by simp) _
  rw [← hW2]
  obtain ⟨c0, c1, c2, c3, c4, fz⟩ := tcells hg
  obtain ⟨d0, d1, d2, d3, d4, fy⟩ := tcells ht
  have HG := Lib.hid hg
  have HT := Lib.hid ht
  have HBEL := Lib.hid hbel
  clear hW2 hg ht hbel
  go_wp2_with fail
  refine (HD.out _).mono ?_
  rintro e w' ⟨rfl, rfl⟩
  go_wp2_with fail
  refine (HR2.out _).mono ?_
  rintro e w' ⟨rfl, rfl⟩
  go_wp2_with fail
  try rw [HF.out]
  try rw [HBB.out]
  try rw [H8.out]
  refine (HE.out _).mono ?_
  rintro e w' ⟨rfl, rfl⟩
  cases z with
  | false =>
    have HRR := Lib.hid (H12.out (.inl rfl))
    go_wp2_with fail
    refine bodyPost_ret (results_row_tmp2 rfl _ _ w.heap.size 40 _ _ rfl (put5_heap HG.out _ _ _ _ _) Tryz.underlying40 rfl rfl) rfl ?_
    exact ends_no HRR.out (put5_below HBEL.out (Nat.le_refl _) _ _ _ _ _)
  | true =>
    by_cases hl : 1 < F.size ∧ F[0].toNat = 48
    · have HRR := Lib.hid (H12.out (.inr hl))
      obtain ⟨hl1, hl2⟩ := hl
      have t48 : ((F[0].toNat : Int) == 48) = true := by simp; omega
      clear hl2
      go_wp2_with fail
      refine bodyPost_ret (results_row_tmp2 rfl _ _ w.heap.size 40 _ _ rfl (put5_heap HG.out _ _ _ _ _) Tryz.underlying40 rfl rfl) rfl ?_
      exact ends_no HRR.out (put5_below HBEL.out (Nat.le_refl _) _ _ _ _ _)
    · have HL := Lib.hid hl
      obtain ⟨q, hq⟩ : ∃ q, q = ((F[0].toNat : Int) == 48) := ⟨_, rfl⟩
      have hl3 : 1 < F.size → ((F[0].toNat : Int) == 48) = false := fun h => by
        have : ¬ F[0].toNat = 48 := fun e => hl ⟨h, e⟩
        simp; omega
      clear hl hq
      by_cases hbig : 1000 < F.size + B.size
      · have HRR := Lib.hid (H14.out rfl HL.out hbig)
        by_cases hl1 : 1 < F.size
        · have t48 := hl3 hl1
          clear hl3
          go_wp2_with fail
          refine bodyPost_ret (results_row_tmp2 rfl _ _ w.heap.size 40 _ _ rfl (put5_heap HG.out _ _ _ _ _) Tryz.underlying40 rfl rfl) rfl ?_
          exact ends_no HRR.out (put5_below HBEL.out (Nat.le_refl _) _ _ _ _ _)
        · clear hl3
          go_wp2_with fail
          refine bodyPost_ret (results_row_tmp2 rfl _ _ w.heap.size 40 _ _ rfl (put5_heap HG.out _ _ _ _ _) Tryz.underlying40 rfl rfl) rfl ?_
          exact ends_no HRR.out (put5_below HBEL.out (Nat.le_refl _) _ _ _ _ _)
      · obtain ⟨hRR, hNM⟩ := HOK.out rfl HL.out hbig
        have hb1 : F.size + B.size ≤ 1000 := by omega
        have HRR := Lib.hid hRR
        have HNM := Lib.hid hNM
        clear hbig hRR hNM
        by_cases hl1 : 1 < F.size
        · have t48 := hl3 hl1
          clear hl3
          go_wp2_with fail
          refine (HNM.out _).mono ?_
          rintro e w3 ⟨rfl, hb3⟩
          have hg3 := (hb3.block _ (Array.getElem?_eq_some_iff.1 HG.out).1).trans HG.out
          have ht3 := (hb3.block _ (Array.getElem?_eq_some_iff.1 HT.out).1).trans HT.out
          have HG4 := Lib.hid ((Below.heap_setCell w3 ⟨w.heap.size + 1, 2, none⟩ (.string Q) w.heap.size (by show w.heap.size ≠ w.heap.size + 1; omega)).trans hg3)
          have HBE := Lib.hid ((HBEL.out.trans (hb3.mono HBEL.out.size)).setCell (p := ⟨w.heap.size + 1, 2, none⟩) (Nat.le_succ _) (.string Q))
          clear c0 c1 c2 c3 c4 fz d0 d1 d2 d3 d4 fy hb3
          obtain ⟨c0, c1, c2, c3, c4, fz⟩ := tcells hg3
          obtain ⟨d0, d1, d2, d3, d4, fy⟩ := tcells ht3
          clear hg3 ht3
          go_wp2_with fail
          refine bodyPost_ret (results_row_tmp2 rfl _ _ w.heap.size 40 _ _ rfl (put5_heap HG4.out _ _ _ _ _) Tryz.underlying40 rfl rfl) rfl ?_
          show OnePost _ _ _ _ _
          rw [HRR.out]
          exact onePost_yes (by omega) (put5_below HBE.out (Nat.le_refl _) _ _ _ _ _)
        · clear hl3
          go_wp2_with fail
          refine (HNM.out _).mono ?_
          rintro e w3 ⟨rfl, hb3⟩
          have hg3 := (hb3.block _ (Array.getElem?_eq_some_iff.1 HG.out).1).trans HG.out
          have ht3 := (hb3.block _ (Array.getElem?_eq_some_iff.1 HT.out).1).trans HT.out
          have HG4 := Lib.hid ((Below.heap_setCell w3 ⟨w.heap.size + 1, 2, none⟩ (.string Q) w.heap.size (by show w.heap.size ≠ w.heap.size + 1; omega)).trans hg3)
          have HBE := Lib.hid ((HBEL.out.trans (hb3.mono HBEL.out.size)).setCell (p := ⟨w.heap.size + 1, 2, none⟩) (Nat.le_succ _) (.string Q))
          clear c0 c1 c2 c3 c4 fz d0 d1 d2 d3 d4 fy hb3
          obtain ⟨c0, c1, c2, c3, c4, fz⟩ := tcells hg3
          obtain ⟨d0, d1, d2, d3, d4, fy⟩ := tcells ht3
          clear hg3 ht3
          go_wp2_with fail
          refine bodyPost_ret (results_row_tmp2 rfl _ _ w.heap.size 40 _ _ rfl (put5_heap HG4.out _ _ _ _ _) Tryz.underlying40 rfl rfl) rfl ?_
          show OnePost _ _ _ _ _
          rw [HRR.out]
          exact onePost_yes (by omega) (put5_below HBE.out (Nat.le_refl _) _ _ _ _ _)
set_option maxHeartbeats 4000000 in
set_option maxRecDepth 100000 in
theorem num_walk0s (s F B Q : ByteArray) (i A E : Nat) (R : OneR) (z : Bool) (w : World) (hs : s.size ≤ 100000) (hi : i < s.size) (hk : i ≤ A) (hA : A ≤ s.size) (t45 : ((s[i].toNat : Int) == 45) = false) (HR1 : Hid (∀ W, Calls Tryz.prog 49 #[.string s, .int .i64 (i : Int)] W (RetI W (A : Int)))) (hF : s.extract i A = F) (hF0 : 0 < F.size) (hAs : A < s.size) (t46 : ((s[A].toNat : Int) == 46) = false) (t47 : ((s[A].toNat : Int) == 47) = true) (HD : Hid (∀ W, Calls Tryz.prog 33 #[.string s, .int .i64 ((A : Int) + 1)] W (RetB W true))) (HR2 : Hid (∀ W, Calls Tryz.prog 49 #[.string s, .int .i64 ((A : Int) + 1)] W (RetI W (E : Int)))) (hE1 : A + 1 ≤ E) (hE2 : E ≤ s.size) (hB : s.extract (A + 1) E = B) (hB0 : 0 < B.size) (h8 : (s[A].toNat : Int) = 47) (HE : Hid (∀ W, Calls Tryz.prog 30 #[.string s, .int .i64 (E : Int)] W (RetB W z))) (H12 : Hid (z = false ∨ (1 < F.size ∧ F[0].toNat = 48) ∨ B[0].toNat = 48 → R = .no 12)) (H14 : Hid (z = true → ¬ (1 < F.size ∧ F[0].toNat = 48) → ¬ B[0].toNat = 48 → (1000 < F.size ∨ 1000 < B.size) → R = .no 14)) (HOK : Hid (z = true → ¬ (1 < F.size ∧ F[0].toNat = 48) → ¬ B[0].toNat = 48 → ¬ (1000 < F.size ∨ 1000 < B.size) → R = .yes ⟨3, ⟨#[]⟩, Q, 0, 0⟩ (E - i) ∧ ∀ W, Calls Tryz.prog 50 #[.bool false, .string F, .int .u8 47, .string B] W (StE W Q 0))) :
    Calls Tryz.prog 34 #[.string s, .int .i64 (i : Int)] w (OnePost w i R) := by
  have hFs : F.size ≤ 100000 := by rw [← hF]; simp; omega
  have hBs : B.size ≤ 100000 := by rw [← hB]; simp; omega
  have HF := Lib.hid hF
  clear hF
  have HBB := Lib.hid hB
  have H8 := Lib.hid h8
  clear hB h8
  go_enter Tryz.func34, Tryz.ntmps34
  go_wp2_with fail
  refine (HR1.out _).mono ?_
  rintro e w' ⟨rfl, rfl⟩
  obtain ⟨W2, hW2⟩ : ∃ W2, W2 = (w.alloc (.cells #[.int .u8 0, .string ⟨#[]⟩, .string ⟨#[]⟩, .int .i64 0, .int .i64 0] 40)).alloc (.cells #[.int .u8 3, .string ⟨#[]⟩, .string ⟨#[]⟩, .int .i64 0, .int .i64 (i : Int)] 40) := ⟨_, rfl⟩
  have hg : W2.heap[w.heap.size]? = some (.cells #[.int .u8 0, .string ⟨#[]⟩, .string ⟨#[]⟩, .int .i64 0, .int .i64 0] 40) := by rw [hW2]; exact two_first ..
  have ht : W2.heap[w.heap.size + 1]? = some (.cells #[.int .u8 3, .string ⟨#[]⟩, .string ⟨#[]⟩, .int .i64 0, .int .i64 (i : Int)] 40) := by rw [hW2]; exact two_next ..
  have hbel : Below w.heap.size w W2 := by rw [hW2]; exact (own_below w _).alloc (by simp) _
  rw [← hW2]
  obtain ⟨c0, c1, c2, c3, c4, fz⟩ := tcells hg
  obtain ⟨d0, d1, d2, d3, d4, fy⟩ := tcells ht
  have HG := Lib.hid hg
  have HT := Lib.hid ht
  have HBEL := Lib.hid hbel
  clear hW2 hg ht hbel
  go_wp2_with fail
  refine (HD.out _).mono ?_
  rintro e w' ⟨rfl, rfl⟩
  go_wp2_with fail
  refine (HR2.out _).mono ?_
  rintro e w' ⟨rfl, rfl⟩
  go_wp2_with fail
  try rw [HF.out]
  try rw [HBB.out]
  try rw [H8.out]
  refine (HE.out _).mono ?_
  rintro e w' ⟨rfl, rfl⟩
  cases z with
  | false =>
    have HRR := Lib.hid (H12.out (.inl rfl))
    go_wp2_with fail
    refine bodyPost_ret (results_row_tmp2 rfl _ _ w.heap.size 40 _ _ rfl (put5_heap HG.out _ _ _ _ _) Tryz.underlying40 rfl rfl) rfl ?_
    exact ends_no HRR.out (put5_below HBEL.out (Nat.le_refl _) _ _ _ _ _)
  | true =>
    by_cases hl : 1 < F.size ∧ F[0].toNat = 48
    · have HRR := Lib.hid (H12.out (.inr (.inl hl)))
      obtain ⟨hl1, hl2⟩ := hl
      have t48 : ((F[0].toNat : Int) == 48) = true := by simp; omega
      clear hl2
      go_wp2_with fail
      refine bodyPost_ret (results_row_tmp2 rfl _ _ w.heap.size 40 _ _ rfl (put5_heap HG.out _ _ _ _ _) Tryz.underlying40 rfl rfl) rfl ?_
      exact ends_no HRR.out (put5_below HBEL.out (Nat.le_refl _) _ _ _ _ _)
    · have HL := Lib.hid hl
      obtain ⟨q, hq⟩ : ∃ q, q = ((F[0].toNat : Int) == 48) := ⟨_, rfl⟩
      have hl3 : 1 < F.size → ((F[0].toNat : Int) == 48) = false := fun h => by
        have : ¬ F[0].toNat = 48 := fun e => hl ⟨h, e⟩
        simp; omega
      clear hl hq
      by_cases hb48 : B[0].toNat = 48
      · have HRR := Lib.hid (H12.out (.inr (.inr hb48)))
        have u48 : ((B[0].toNat : Int) == 48) = true := by simp; omega
        clear hb48
        by_cases hl1 : 1 < F.size
        · have t48 := hl3 hl1
          clear hl3
          go_wp2_with fail
          refine bodyPost_ret (results_row_tmp2 rfl _ _ w.heap.size 40 _ _ rfl (put5_heap HG.out _ _ _ _ _) Tryz.underlying40 rfl rfl) rfl ?_
          exact ends_no HRR.out (put5_below HBEL.out (Nat.le_refl _) _ _ _ _ _)
        · clear hl3
          go_wp2_with fail
          refine bodyPost_ret (results_row_tmp2 rfl _ _ w.heap.size 40 _ _ rfl (put5_heap HG.out _ _ _ _ _) Tryz.underlying40 rfl rfl) rfl ?_
          exact ends_no HRR.out (put5_below HBEL.out (Nat.le_refl _) _ _ _ _ _)
      have u48 : ((B[0].toNat : Int) == 48) = false := by simp; omega
      have HB48 := Lib.hid hb48
      clear hb48
      by_cases hbig : (1000 < F.size ∨ 1000 < B.size)
      · have HRR := Lib.hid (H14.out rfl HL.out HB48.out hbig)
        have hbig2 : 1000 < F.size ∨ (F.size ≤ 1000 ∧ 1000 < B.size) := by omega
        clear hbig
        rcases hbig2 with hb1 | ⟨hb1, hb2⟩
        · have hl1 : 1 < F.size := by omega
          have t48 := hl3 hl1
          clear hl3
          go_wp2_with fail
          refine bodyPost_ret (results_row_tmp2 rfl _ _ w.heap.size 40 _ _ rfl (put5_heap HG.out _ _ _ _ _) Tryz.underlying40 rfl rfl) rfl ?_
          exact ends_no HRR.out (put5_below HBEL.out (Nat.le_refl _) _ _ _ _ _)
        · by_cases hl1 : 1 < F.size
          · have t48 := hl3 hl1
            clear hl3
            go_wp2_with fail
            refine bodyPost_ret (results_row_tmp2 rfl _ _ w.heap.size 40 _ _ rfl (put5_heap HG.out _ _ _ _ _) Tryz.underlying40 rfl rfl) rfl ?_
            exact ends_no HRR.out (put5_below HBEL.out (Nat.le_refl _) _ _ _ _ _)
          · clear hl3
            go_wp2_with fail
            refine bodyPost_ret (results_row_tmp2 rfl _ _ w.heap.size 40 _ _ rfl (put5_heap HG.out _ _ _ _ _) Tryz.underlying40 rfl rfl) rfl ?_
            exact ends_no HRR.out (put5_below HBEL.out (Nat.le_refl _) _ _ _ _ _)
      · obtain ⟨hRR, hNM⟩ := HOK.out rfl HL.out HB48.out hbig
        have hb1 : F.size ≤ 1000 ∧ B.size ≤ 1000 := by omega
        have HRR := Lib.hid hRR
        have HNM := Lib.hid hNM
        clear hbig hRR hNM
        obtain ⟨hb1, hb2⟩ := hb1
        by_cases hl1 : 1 < F.size
        · have t48 := hl3 hl1
          clear hl3
          go_wp2_with fail
          refine (HNM.out _).mono ?_
          rintro e w3 ⟨rfl, hb3⟩
          have hg3 := (hb3.block _ (Array.getElem?_eq_some_iff.1 HG.out).1).trans HG.out
          have ht3 := (hb3.block _ (Array.getElem?_eq_some_iff.1 HT.out).1).trans HT.out
          have HG4 := Lib.hid ((Below.heap_setCell w3 ⟨w.heap.size + 1, 2, none⟩ (.string Q) w.heap.size (by show w.heap.size ≠ w.heap.size + 1; omega)).trans hg3)
          have HBE := Lib.hid ((HBEL.out.trans (hb3.mono HBEL.out.size)).setCell (p := ⟨w.heap.size + 1, 2, none⟩) (Nat.le_succ _) (.string Q))
          clear c0 c1 c2 c3 c4 fz d0 d1 d2 d3 d4 fy hb3
          obtain ⟨c0, c1, c2, c3, c4, fz⟩ := tcells hg3
          obtain ⟨d0, d1, d2, d3, d4, fy⟩ := tcells ht3
          clear hg3 ht3
          go_wp2_with fail
          refine bodyPost_ret (results_row_tmp2 rfl _ _ w.heap.size 40 _ _ rfl (put5_heap HG4.out _ _ _ _ _) Tryz.underlying40 rfl rfl) rfl ?_
          show OnePost _ _ _ _ _
          rw [HRR.out]
          exact onePost_yes (by omega) (put5_below HBE.out (Nat.le_refl _) _ _ _ _ _)
        · clear hl3
          go_wp2_with fail
          refine (HNM.out _).mono ?_
          rintro e w3 ⟨rfl, hb3⟩
          have hg3 := (hb3.block _ (Array.getElem?_eq_some_iff.1 HG.out).1).trans HG.out
          have ht3 := (hb3.block _ (Array.getElem?_eq_some_iff.1 HT.out).1).trans HT.out
          have HG4 := Lib.hid ((Below.heap_setCell w3 ⟨w.heap.size + 1, 2, none⟩ (.string Q) w.heap.size (by show w.heap.size ≠ w.heap.size + 1; omega)).trans hg3)
          have HBE := Lib.hid ((HBEL.out.trans (hb3.mono HBEL.out.size)).setCell (p := ⟨w.heap.size + 1, 2, none⟩) (Nat.le_succ _) (.string Q))
          clear c0 c1 c2 c3 c4 fz d0 d1 d2 d3 d4 fy hb3
          obtain ⟨c0, c1, c2, c3, c4, fz⟩ := tcells hg3
          obtain ⟨d0, d1, d2, d3, d4, fy⟩ := tcells ht3
          clear hg3 ht3
          go_wp2_with fail
          refine bodyPost_ret (results_row_tmp2 rfl _ _ w.heap.size 40 _ _ rfl (put5_heap HG4.out _ _ _ _ _) Tryz.underlying40 rfl rfl) rfl ?_
          show OnePost _ _ _ _ _
          rw [HRR.out]
          exact onePost_yes (by omega) (put5_below HBE.out (Nat.le_refl _) _ _ _ _ _)

end Go.Proofs.YtnmiiimbjojcmaaGreatDoor
