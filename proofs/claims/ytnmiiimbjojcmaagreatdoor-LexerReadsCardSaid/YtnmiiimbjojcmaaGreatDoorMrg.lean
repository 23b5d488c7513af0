/-
  The reference's number of a text: walked. No condition.
-/
import Derived.Test.YtnmiiimbjojcmaaGreatDoorMrf
import Derived.Test.YtnmiiimbjojcmaaGreatDoorXe
namespace Go.Proofs.YtnmiiimbjojcmaaGreatDoor
open Go.RowKit Go.Shelf
set_option linter.unusedVariables false

theorem two_first (w : World) (o1 o2 : Obj) : ((w.alloc o1).alloc o2).heap[w.heap.size]? = some o1 := by
  rw [Below.heap_alloc _ _ _ (by simp)]
  exact World.alloc_heap_new w _
theorem two_next (w : World) (o1 o2 : Obj) : ((w.alloc o1).alloc o2).heap[w.heap.size + 1]? = some o2 := by
  have := World.alloc_heap_new (w.alloc o1) o2
  rwa [World.size_alloc] at this
theorem ends_no {w W : World} {i : Nat} {R : OneR} {er en : Int} {K : Int} {T Q : ByteArray} {D : Int} (h : R = .no er) (hb : Below w.heap.size w W) : OnePost w i R (.returned (.tuple #[.agg #[.int .u8 K, .string T, .string Q, .int .i64 D, .int .i64 (i : Int)], .int .i64 en, .int .i64 er])) W := by
  rw [h]; exact onePost_no hb
set_option maxHeartbeats 4000000 in
set_option maxRecDepth 100000 in
theorem num_walk0a (s F Q : ByteArray) (i A : Nat) (R : OneR) (z : Bool) (w : World) (hs : s.size ≤ 100000) (hi : i < s.size) (hk : i ≤ A) (hA : A ≤ s.size) (t45 : ((s[i].toNat : Int) == 45) = false) (HR1 : Hid (∀ W, Calls Tryz.prog 49 #[.string s, .int .i64 (i : Int)] W (RetI W (A : Int)))) (hF : s.extract i A = F) (hF0 : 0 < F.size) (hAE : A = s.size) (HE : Hid (∀ W, Calls Tryz.prog 30 #[.string s, .int .i64 (A : Int)] W (RetB W z))) (H12 : Hid (z = false ∨ (1 < F.size ∧ F[0].toNat = 48) → R = .no 12)) (H14 : Hid (z = true → ¬ (1 < F.size ∧ F[0].toNat = 48) → 1000 < F.size → R = .no 14)) (HOK : Hid (z = true → ¬ (1 < F.size ∧ F[0].toNat = 48) → ¬ 1000 < F.size → R = .yes ⟨3, ⟨#[]⟩, Q, 0, 0⟩ (A - i) ∧ ∀ W, Calls Tryz.prog 50 #[.bool false, .string F, .int .u8 0, .string (⟨#[]⟩ : ByteArray)] W (StE W Q 0))) :
    Calls Tryz.prog 34 #[.string s, .int .i64 (i : Int)] w (OnePost w i R) := by
  have hFs : F.size ≤ 100000 := by rw [← hF]; simp; omega
  have HF := Lib.hid hF
  clear hF
  subst hAE
  go_enter Tryz.func34, Tryz.ntmps34
  go_wp2_with fail
  refine (HR1.out _).mono ?_
  rintro e w' ⟨rfl, rfl⟩
  obtain ⟨W2, hW2⟩ : ∃ W2, W2 = (w.alloc (.cells #[.int .u8 0, .string ⟨#[]⟩, .string ⟨#[]⟩, .int .i64 0, .int .i64 0] 40)).alloc (.cells #[.int .u8 3, .string ⟨#[]⟩, .string ⟨#[]⟩, .int .i64 0, .int .i64 (i : Int)] 40) := ⟨_, rfl⟩
  have hg : W2.heap[w.heap.size]? = some (.cells #[.int .u8 0, .string ⟨#[]⟩, .string ⟨#[]⟩, .int .i64 0, .int .i64 0] 40) := by rw [hW2]; exact two_first ..
  have ht : W2.heap[w.heap.size + 1]? = some (.cells #[.int .u8 3, .string ⟨#[]⟩, .string ⟨#[]⟩, .int .i64 0, .int .i64 (i : Int)] 40) := by rw [hW2]; exact two_next ..
  have hbel : Below w.heap.size w W2 := by rw [hW2]; exact (own_below w _).alloc (by simp) _
  rw [← hW2]
  obtain ⟨c0, c1, c2, c3, c4, fz⟩ := tcells hg
  obtain ⟨d0, d1, d2, d3, d4, fy⟩ := tcells ht
  have HG := Lib.hid hg
  have HT := Lib.hid ht
  have HBEL := Lib.hid hbel
  clear hW2 hg ht hbel
  go_wp2_with fail
  try rw [HF.out]
  refine (HE.out _).mono ?_
  rintro e w' ⟨rfl, rfl⟩
  cases z with
  | false =>
    have HRR := Lib.hid (H12.out (.inl rfl))
    go_wp2_with fail
    refine bodyPost_ret (results_row_tmp2 rfl _ _ w.heap.size 40 _ _ rfl (put5_heap HG.out _ _ _ _ _) Tryz.underlying40 rfl rfl) rfl ?_
    exact ends_no HRR.out (put5_below HBEL.out (Nat.le_refl _) _ _ _ _ _)
  | true =>
    by_cases hl : 1 < F.size ∧ F[0].toNat = 48
    · have HRR := Lib.hid (H12.out (.inr hl))
      obtain ⟨hl1, hl2⟩ := hl
      have t48 : ((F[0].toNat : Int) == 48) = true := by simp; omega
      clear hl2
      go_wp2_with fail
      refine bodyPost_ret (results_row_tmp2 rfl _ _ w.heap.size 40 _ _ rfl (put5_heap HG.out _ _ _ _ _) Tryz.underlying40 rfl rfl) rfl ?_
      exact ends_no HRR.out (put5_below HBEL.out (Nat.le_refl _) _ _ _ _ _)
    · have HL := Lib.hid hl
      obtain ⟨q, hq⟩ : ∃ q, q = ((F[0].toNat : Int) == 48) := ⟨_, rfl⟩
      have hl3 : 1 < F.size → ((F[0].toNat : Int) == 48) = false := fun h => by
        have : ¬ F[0].toNat = 48 := fun e => hl ⟨h, e⟩
        simp; omega
      clear hl hq
      by_cases hbig : 1000 < F.size
      · have HRR := Lib.hid (H14.out rfl HL.out hbig)
        by_cases hl1 : 1 < F.size
        · have t48 := hl3 hl1
          clear hl3
          go_wp2_with fail
          refine bodyPost_ret (results_row_tmp2 rfl _ _ w.heap.size 40 _ _ rfl (put5_heap HG.out _ _ _ _ _) Tryz.underlying40 rfl rfl) rfl ?_
          exact ends_no HRR.out (put5_below HBEL.out (Nat.le_refl _) _ _ _ _ _)
        · exact absurd hbig (by omega)
      · obtain ⟨hRR, hNM⟩ := HOK.out rfl HL.out hbig
        have hb1 : F.size ≤ 1000 := by omega
        have HRR := Lib.hid hRR
        have HNM := Lib.hid hNM
        clear hbig hRR hNM
        by_cases hl1 : 1 < F.size
        · have t48 := hl3 hl1
          clear hl3
          go_wp2_with fail
          refine (HNM.out _).mono ?_
          rintro e w3 ⟨rfl, hb3⟩
          have hg3 := (hb3.block _ (Array.getElem?_eq_some_iff.1 HG.out).1).trans HG.out
          have ht3 := (hb3.block _ (Array.getElem?_eq_some_iff.1 HT.out).1).trans HT.out
          have HG4 := Lib.hid ((Below.heap_setCell w3 ⟨w.heap.size + 1, 2, none⟩ (.string Q) w.heap.size (by show w.heap.size ≠ w.heap.size + 1; omega)).trans hg3)
          have HBE := Lib.hid ((HBEL.out.trans (hb3.mono HBEL.out.size)).setCell (p := ⟨w.heap.size + 1, 2, none⟩) (Nat.le_succ _) (.string Q))
          clear c0 c1 c2 c3 c4 fz d0 d1 d2 d3 d4 fy hb3
          obtain ⟨c0, c1, c2, c3, c4, fz⟩ := tcells hg3
          obtain ⟨d0, d1, d2, d3, d4, fy⟩ := tcells ht3
          clear hg3 ht3
          go_wp2_with fail
          refine bodyPost_ret (results_row_tmp2 rfl _ _ w.heap.size 40 _ _ rfl (put5_heap HG4.out _ _ _ _ _) Tryz.underlying40 rfl rfl) rfl ?_
          show OnePost _ _ _ _ _
          rw [HRR.out]
          exact onePost_yes (by omega) (put5_below HBE.out (Nat.le_refl _) _ _ _ _ _)
        · clear hl3
          go_wp2_with fail
          refine (HNM.out _).mono ?_
          rintro e w3 ⟨rfl, hb3⟩
          have hg3 := (hb3.block _ (Array.getElem?_eq_some_iff.1 HG.out).1).trans HG.out
          have ht3 := (hb3.block _ (Array.getElem?_eq_some_iff.1 HT.out).1).trans HT.out
          have HG4 := Lib.hid ((Below.heap_setCell w3 ⟨w.heap.size + 1, 2, none⟩ (.string Q) w.heap.size (by show w.heap.size ≠ w.heap.size + 1; omega)).trans hg3)
          have HBE := Lib.hid ((HBEL.out.trans (hb3.mono HBEL.out.size)).setCell (p := ⟨w.heap.size + 1, 2, none⟩) (Nat.le_succ _) (.string Q))
          clear c0 c1 c2 c3 c4 fz d0 d1 d2 d3 d4 fy hb3
          obtain ⟨c0, c1, c2, c3, c4, fz⟩ := tcells hg3
          obtain ⟨d0, d1, d2, d3, d4, fy⟩ := tcells ht3
          clear hg3 ht3
          go_wp2_with fail
          refine bodyPost_ret (results_row_tmp2 rfl _ _ w.heap.size 40 _ _ rfl (put5_heap HG4.out _ _ _ _ _) Tryz.underlying40 rfl rfl) rfl ?_
          show OnePost _ _ _ _ _
          rw [HRR.out]
          exact onePost_yes (by omega) (put5_below HBE.out (Nat.le_refl _) _ _ _ _ _)
set_option maxHeartbeats 4000000 in
set_option maxRecDepth 100000 in
theorem num_walk0b (s F Q : ByteArray) (i A : Nat) (R : OneR) (z : Bool) (w : World) (hs : s.size ≤ 100000) (hi : i < s.size) (hk : i ≤ A) (hA : A ≤ s.size) (t45 : ((s[i].toNat : Int) == 45) = false) (HR1 : Hid (∀ W, Calls Tryz.prog 49 #[.string s, .int .i64 (i : Int)] W (RetI W (A : Int)))) (hF : s.extract i A = F) (hF0 : 0 < F.size) (hAs : A < s.size) (t46 : ((s[A].toNat : Int) == 46) = false) (t47 : ((s[A].toNat : Int) == 47) = false) (HE : Hid (∀ W, Calls Tryz.prog 30 #[.string s, .int .i64 (A : Int)] W (RetB W z))) (H12 : Hid (z = false ∨ (1 < F.size ∧ F[0].toNat = 48) → R = .no 12)) (H14 : Hid (z = true → ¬ (1 < F.size ∧ F[0].toNat = 48) → 1000 < F.size → R = .no 14)) (HOK : Hid (z = true → ¬ (1 < F.size ∧ F[0].toNat = 48) → ¬ 1000 < F.size → R = .yes ⟨3, ⟨#[]⟩, Q, 0, 0⟩ (A - i) ∧ ∀ W, Calls Tryz.prog 50 #[.bool false, .string F, .int .u8 0, .string (⟨#[]⟩ : ByteArray)] W (StE W Q 0))) :
    Calls Tryz.prog 34 #[.string s, .int .i64 (i : Int)] w (OnePost w i R) := by
  have hFs : F.size ≤ 100000 := by rw [← hF]; simp; omega
  have HF := Lib.hid hF
  clear hF
  go_enter Tryz.func34, Tryz.ntmps34
  go_wp2_with fail
  refine (HR1.out _).mono ?_
  rintro e w' ⟨rfl, rfl⟩
  obtain ⟨W2, hW2⟩ : ∃ W2, W2 = (w.alloc (.cells #[.int .u8 0, .string ⟨#[]⟩, .string ⟨#[]⟩, .int .i64 0, .int .i64 0] 40)).alloc (.cells #[.int .u8 3, .string ⟨#[]⟩, .string ⟨#[]⟩, .int .i64 0, .int .i64 (i : Int)] 40) := ⟨_, rfl⟩
  have hg : W2.heap[w.heap.size]? = some (.cells #[.int .u8 0, .string ⟨#[]⟩, .string ⟨#[]⟩, .int .i64 0, .int .i64 0] 40) := by rw [hW2]; exact two_first ..
  have ht : W2.heap[w.heap.size + 1]? = some (.cells #[.int .u8 3, .string ⟨#[]⟩, .string ⟨#[]⟩, .int .i64 0, .int .i64 (i : Int)] 40) := by rw [hW2]; exact two_next ..
  have hbel : Below w.heap.size w W2 := by rw [hW2]; exact (own_below w _).alloc (by simp) _
  rw [← hW2]
  obtain ⟨c0, c1, c2, c3, c4, fz⟩ := tcells hg
  obtain ⟨d0, d1, d2, d3, d4, fy⟩ := tcells ht
  have HG := Lib.hid hg
  have HT := Lib.hid ht
  have HBEL := Lib.hid hbel
  clear hW2 hg ht hbel
  go_wp2_with fail
  try rw [HF.out]
  refine (HE.out _).mono ?_
  rintro e w' ⟨rfl, rfl⟩
  cases z with
  | false =>
    have HRR := Lib.hid (H12.out (.inl rfl))
    go_wp2_with fail
    refine bodyPost_ret (results_row_tmp2 rfl _ _ w.heap.size 40 _ _ rfl (put5_heap HG.out _ _ _ _ _) Tryz.underlying40 rfl rfl) rfl ?_
    exact ends_no HRR.out (put5_below HBEL.out (Nat.le_refl _) _ _ _ _ _)
  | true =>
    by_cases hl : 1 < F.size ∧ F[0].toNat = 48
    · have HRR := Lib.hid (H12.out (.inr hl))
      obtain ⟨hl1, hl2⟩ := hl
      have t48 : ((F[0].toNat : Int) == 48) = true := by simp; omega
      clear hl2
      go_wp2_with fail
      refine bodyPost_ret (results_row_tmp2 rfl _ _ w.heap.size 40 _ _ rfl (put5_heap HG.out _ _ _ _ _) Tryz.underlying40 rfl rfl) rfl ?_
      exact ends_no HRR.out (put5_below HBEL.out (Nat.le_refl _) _ _ _ _ _)
    · have HL := Lib.hid hl
      obtain ⟨q, hq⟩ : ∃ q, q = ((F[0].toNat : Int) == 48) := ⟨_, rfl⟩
      have hl3 : 1 < F.size → ((F[0].toNat : Int) == 48) = false := fun h => by
        have : ¬ F[0].toNat = 48 := fun e => hl ⟨h, e⟩
        simp; omega
      clear hl hq
      by_cases hbig : 1000 < F.size
      · have HRR := Lib.hid (H14.out rfl HL.out hbig)
        by_cases hl1 : 1 < F.size
        · have t48 := hl3 hl1
          clear hl3
          go_wp2_with fail
          refine bodyPost_ret (results_row_tmp2 rfl _ _ w.heap.size 40 _ _ rfl (put5_heap HG.out _ _ _ _ _) Tryz.underlying40 rfl rfl) rfl ?_
          exact ends_no HRR.out (put5_below HBEL.out (Nat.le_refl _) _ _ _ _ _)
        · exact absurd hbig (by omega)
      · obtain ⟨hRR, hNM⟩ := HOK.out rfl HL.out hbig
        have hb1 : F.size ≤ 1000 := by omega
        have HRR := Lib.hid hRR
        have HNM := Lib.hid hNM
        clear hbig hRR hNM
        by_cases hl1 : 1 < F.size
        · have t48 := hl3 hl1
          clear hl3
          go_wp2_with fail
          refine (HNM.out _).mono ?_
          rintro e w3 ⟨rfl, hb3⟩
          have hg3 := (hb3.block _ (Array.getElem?_eq_some_iff.1 HG.out).1).trans HG.out
          have ht3 := (hb3.block _ (Array.getElem?_eq_some_iff.1 HT.out).1).trans HT.out
          have HG4 := Lib.hid ((Below.heap_setCell w3 ⟨w.heap.size + 1, 2, none⟩ (.string Q) w.heap.size (by show w.heap.size ≠ w.heap.size + 1; omega)).trans hg3)
          have HBE := Lib.hid ((HBEL.out.trans (hb3.mono HBEL.out.size)).setCell (p := ⟨w.heap.size + 1, 2, none⟩) (Nat.le_succ _) (.string Q))
          clear c0 c1 c2 c3 c4 fz d0 d1 d2 d3 d4 fy hb3
          obtain ⟨c0, c1, c2, c3, c4, fz⟩ := tcells hg3
          obtain ⟨d0, d1, d2, d3, d4, fy⟩ := tcells ht3
          clear hg3 ht3
          go_wp2_with fail
          refine bodyPost_ret (results_row_tmp2 rfl _ _ w.heap.size 40 _ _ rfl (put5_heap HG4.out _ _ _ _ _) Tryz.underlying40 rfl rfl) rfl ?_
          show OnePost _ _ _ _ _
          rw [HRR.out]
          exact onePost_yes (by omega) (put5_below HBE.out (Nat.le_refl _) _ _ _ _ _)
        · clear hl3
          go_wp2_with fail
          refine (HNM.out _).mono ?_
          rintro e w3 ⟨rfl, hb3⟩
          have hg3 := (hb3.block _ (Array.getElem?_eq_some_iff.1 HG.out).1).trans HG.out
          have ht3 := (hb3.block _ (Array.getElem?_eq_some_iff.1 HT.out).1).trans HT.out
          have HG4 := Lib.hid ((Below.heap_setCell w3 ⟨w.heap.size + 1, 2, none⟩ (.string Q) w.heap.size (by show w.heap.size ≠ w.heap.size + 1; omega)).trans hg3)
          have HBE := Lib.hid ((HBEL.out.trans (hb3.mono HBEL.out.size)).setCell (p := ⟨w.heap.size + 1, 2, none⟩) (Nat.le_succ _) (.string Q))
          clear c0 c1 c2 c3 c4 fz d0 d1 d2 d3 d4 fy hb3
          obtain ⟨c0, c1, c2, c3, c4, fz⟩ := tcells hg3
          obtain ⟨d0, d1, d2, d3, d4, fy⟩ := tcells ht3
          clear hg3 ht3
          go_wp2_with fail
          refine bodyPost_ret (results_row_tmp2 rfl _ _ w.heap.size 40 _ _ rfl (put5_heap HG4.out _ _ _ _ _) Tryz.underlying40 rfl rfl) rfl ?_
          show OnePost _ _ _ _ _
          rw [HRR.out]
          exact onePost_yes (by omega) (put5_below HBE.out (Nat.le_refl _) _ _ _ _ _)
set_option maxHeartbeats 4000000 in
set_option maxRecDepth 100000 in
theorem num_walk0c (s F Q : ByteArray) (i A : Nat) (R : OneR) (z : Bool) (w : World) (hs : s.size ≤ 100000) (hi : i < s.size) (hk : i ≤ A) (hA : A ≤ s.size) (t45 : ((s[i].toNat : Int) == 45) = false) (HR1 : Hid (∀ W, Calls Tryz.prog 49 #[.string s, .int .i64 (i : Int)] W (RetI W (A : Int)))) (hF : s.extract i A = F) (hF0 : 0 < F.size) (hAs : A < s.size) (t46 : ((s[A].toNat : Int) == 46) = true) (HD : Hid (∀ W, Calls Tryz.prog 33 #[.string s, .int .i64 ((A : Int) + 1)] W (RetB W false))) (HE : Hid (∀ W, Calls Tryz.prog 30 #[.string s, .int .i64 (A : Int)] W (RetB W z))) (H12 : Hid (z = false ∨ (1 < F.size ∧ F[0].toNat = 48) → R = .no 12)) (H14 : Hid (z = true → ¬ (1 < F.size ∧ F[0].toNat = 48) → 1000 < F.size → R = .no 14)) (HOK : Hid (z = true → ¬ (1 < F.size ∧ F[0].toNat = 48) → ¬ 1000 < F.size → R = .yes ⟨3, ⟨#[]⟩, Q, 0, 0⟩ (A - i) ∧ ∀ W, Calls Tryz.prog 50 #[.bool false, .string F, .int .u8 0, .string (⟨#[]⟩ : ByteArray)] W (StE W Q 0))) :
    Calls Tryz.prog 34 #[.string s, .int .i64 (i : Int)] w (OnePost w i R) := by
  have hFs : F.size ≤ 100000 := by rw [← hF]; simp; omega
  have HF := Lib.hid hF
  clear hF
  go_enter Tryz.func34, Tryz.ntmps34
  go_wp2_with fail
  refine (HR1.out _).mono ?_
  rintro e w' ⟨rfl, rfl⟩
  obtain ⟨W2, hW2⟩ : ∃ W2, W2 = (w.alloc (.cells #[.int .u8 0, .string ⟨#[]⟩, .string ⟨#[]⟩, .int .i64 0, .int .i64 0] 40)).alloc (.cells #[.int .u8 3, .string ⟨#[]⟩, .string ⟨#[]⟩, .int .i64 0, .int .i64 (i : Int)] 40) := ⟨_, rfl⟩
  have hg : W2.heap[w.heap.size]? = some (.cells #[.int .u8 0, .string ⟨#[]⟩, .string ⟨#[]⟩, .int .i64 0, .int .i64 0] 40) := by rw [hW2]; exact two_first ..
  have ht : W2.heap[w.heap.size + 1]? = some (.cells #[.int .u8 3, .string ⟨#[]⟩, .string ⟨#[]⟩, .int .i64 0, .int .i64 (i : Int)] 40) := by rw [hW2]; exact two_next ..
  have hbel : Below w.heap.size w W2 := by rw [hW2]; exact (own_below w _).alloc (by simp) _
  rw [← hW2]
  obtain ⟨c0, c1, c2, c3, c4, fz⟩ := tcells hg
  obtain ⟨d0, d1, d2, d3, d4, fy⟩ := tcells ht
  have HG := Lib.hid hg
  have HT := Lib.hid ht
  have HBEL := Lib.hid hbel
  clear hW2 hg ht hbel
  go_wp2_with fail
  refine (HD.out _).mono ?_
  rintro e w' ⟨rfl, rfl⟩
  go_wp2_with fail
  try rw [HF.out]
  refine (HE.out _).mono ?_
  rintro e w' ⟨rfl, rfl⟩
  cases z with
  | false =>
    have HRR := Lib.hid (H12.out (.inl rfl))
    go_wp2_with fail
    refine bodyPost_ret (results_row_tmp2 rfl _ _ w.heap.size 40 _ _ rfl (put5_heap HG.out _ _ _ _ _) Tryz.underlying40 rfl rfl) rfl ?_
    exact ends_no HRR.out (put5_below HBEL.out (Nat.le_refl _) _ _ _ _ _)
  | true =>
    by_cases hl : 1 < F.size ∧ F[0].toNat = 48
    · have HRR := Lib.hid (H12.out (.inr hl))
      obtain ⟨hl1, hl2⟩ := hl
      have t48 : ((F[0].toNat : Int) == 48) = true := by simp; omega
      clear hl2
      go_wp2_with fail
      refine bodyPost_ret (results_row_tmp2 rfl _ _ w.heap.size 40 _ _ rfl (put5_heap HG.out _ _ _ _ _) Tryz.underlying40 rfl rfl) rfl ?_
      exact ends_no HRR.out (put5_below HBEL.out (Nat.le_refl _) _ _ _ _ _)
    · have HL := Lib.hid hl
      obtain ⟨q, hq⟩ : ∃ q, q = ((F[0].toNat : Int) == 48) := ⟨_, rfl⟩
      have hl3 : 1 < F.size → ((F[0].toNat : Int) == 48) = false := fun h => by
        have : ¬ F[0].toNat = 48 := fun e => hl ⟨h, e⟩
        simp; omega
      clear hl hq
      by_cases hbig : 1000 < F.size
      · have HRR := Lib.hid (H14.out rfl HL.out hbig)
        by_cases hl1 : 1 < F.size
        · have t48 := hl3 hl1
          clear hl3
          go_wp2_with fail
          refine bodyPost_ret (results_row_tmp2 rfl _ _ w.heap.size 40 _ _ rfl (put5_heap HG.out _ _ _ _ _) Tryz.underlying40 rfl rfl) rfl ?_
          exact ends_no HRR.out (put5_below HBEL.out (Nat.le_refl _) _ _ _ _ _)
        · exact absurd hbig (by omega)
      · obtain ⟨hRR, hNM⟩ := HOK.out rfl HL.out hbig
        have hb1 : F.size ≤ 1000 := by omega
        have HRR := Lib.hid hRR
        have HNM := Lib.hid hNM
        clear hbig hRR hNM
        by_cases hl1 : 1 < F.size
        · have t48 := hl3 hl1
          clear hl3
          go_wp2_with fail
          refine (HNM.out _).mono ?_
          rintro e w3 ⟨rfl, hb3⟩
          have hg3 := (hb3.block _ (Array.getElem?_eq_some_iff.1 HG.out).1).trans HG.out
          have ht3 := (hb3.block _ (Array.getElem?_eq_some_iff.1 HT.out).1).trans HT.out
          have HG4 := Lib.hid ((Below.heap_setCell w3 ⟨w.heap.size + 1, 2, none⟩ (.string Q) w.heap.size (by show w.heap.size ≠ w.heap.size + 1; omega)).trans hg3)
          have HBE := Lib.hid ((HBEL.out.trans (hb3.mono HBEL.out.size)).setCell (p := ⟨w.heap.size + 1, 2, none⟩) (Nat.le_succ _) (.string Q))
          clear c0 c1 c2 c3 c4 fz d0 d1 d2 d3 d4 fy hb3
          obtain ⟨c0, c1, c2, c3, c4, fz⟩ := tcells hg3
          obtain ⟨d0, d1, d2, d3, d4, fy⟩ := tcells ht3
          clear hg3 ht3
          go_wp2_with fail
          refine bodyPost_ret (results_row_tmp2 rfl _ _ w.heap.size 40 _ _ rfl (put5_heap HG4.out _ _ _ _ _) Tryz.underlying40 rfl rfl) rfl ?_
          show OnePost _ _ _ _ _
          rw [HRR.out]
          exact onePost_yes (by omega) (put5_below HBE.out (Nat.le_refl _) _ _ _ _ _)
        · clear hl3
          go_wp2_with fail
          refine (HNM.out _).mono ?_
          rintro e w3 ⟨rfl, hb3⟩
          have hg3 := (hb3.block _ (Array.getElem?_eq_some_iff.1 HG.out).1).trans HG.out
          have ht3 := (hb3.block _ (Array.getElem?_eq_some_iff.1 HT.out).1).trans HT.out
          have HG4 := Lib.hid ((Below.heap_setCell w3 ⟨w.heap.size + 1, 2, none⟩ (.string Q) w.heap.size (by show w.heap.size ≠ w.heap.size + 1; omega)).trans hg3)
          have HBE := Lib.hid ((HBEL.out.trans (hb3.mono HBEL.out.size)).setCell (p := ⟨w.heap.size + 1, 2, none⟩) (Nat.le_succ _) (.string Q))
          clear c0 c1 c2 c3 c4 fz d0 d1 d2 d3 d4 fy hb3
          obtain ⟨c0, c1, c2, c3, c4, fz⟩ := tcells hg3
          obtain ⟨d0, d1, d2, d3, d4, fy⟩ := tcells ht3
          clear hg3 ht3
          go_wp2_with fail
          refine bodyPost_ret (results_row_tmp2 rfl _ _ w.heap.size 40 _ _ rfl (put5_heap HG4.out _ _ _ _ _) Tryz.underlying40 rfl rfl) rfl ?_
          show OnePost _ _ _ _ _
          rw [HRR.out]
          exact onePost_yes (by omega) (put5_below HBE.out (Nat.le_refl _) _ _ _ _ _)
set_option maxHeartbeats 4000000 in
set_option maxRecDepth 100000 in
theorem num_walk0d (s F Q : ByteArray) (i A : Nat) (R : OneR) (z : Bool) (w : World) (hs : s.size ≤ 100000) (hi : i < s.size) (hk : i ≤ A) (hA : A ≤ s.size) (t45 : ((s[i].toNat : Int) == 45) = false) (HR1 : Hid (∀ W, Calls Tryz.prog 49 #[.string s, .int .i64 (i : Int)] W (RetI W (A : Int)))) (hF : s.extract i A = F) (hF0 : 0 < F.size) (hAs : A < s.size) (t46 : ((s[A].toNat : Int) == 46) = false) (t47 : ((s[A].toNat : Int) == 47) = true) (HD : Hid (∀ W, Calls Tryz.prog 33 #[.string s, .int .i64 ((A : Int) + 1)] W (RetB W false))) (HE : Hid (∀ W, Calls Tryz.prog 30 #[.string s, .int .i64 (A : Int)] W (RetB W z))) (H12 : Hid (z = false ∨ (1 < F.size ∧ F[0].toNat = 48) → R = .no 12)) (H14 : Hid (z = true → ¬ (1 < F.size ∧ F[0].toNat = 48) → 1000 < F.size → R = .no 14)) (HOK : Hid (z = true → ¬ (1 < F.size ∧ F[0].toNat = 48) → ¬ 1000 < F.size → R = .yes ⟨3, ⟨#[]⟩, Q, 0, 0⟩ (A - i) ∧ ∀ W, Calls Tryz.prog 50 #[.bool false, .string F, .int .u8 0, .string (⟨#[]⟩ : ByteArray)] W (StE W Q 0))) :
    Calls Tryz.prog 34 #[.string s, .int .i64 (i : Int)] w (OnePost w i R) := by
  have hFs : F.size ≤ 100000 := by rw [← hF]; simp; omega
  have HF := Lib.hid hF
  clear hF
  go_enter Tryz.func34, Tryz.ntmps34
  go_wp2_with fail
  refine (HR1.out _).mono ?_
  rintro e w' ⟨rfl, rfl⟩
  obtain ⟨W2, hW2⟩ : ∃ W2, W2 = (w.alloc (.cells #[.int .u8 0, .string ⟨#[]⟩, .string ⟨#[]⟩, .int .i64 0, .int .i64 0] 40)).alloc (.cells #[.int .u8 3, .string ⟨#[]⟩, .string ⟨#[]⟩, .int .i64 0, .int .i64 (i : Int)] 40) := ⟨_, rfl⟩
  have hg : W2.heap[w.heap.size]? = some (.cells #[.int .u8 0, .string ⟨#[]⟩, .string ⟨#[]⟩, .int .i64 0, .int .i64 0] 40) := by rw [hW2]; exact two_first ..
  have ht : W2.heap[w.heap.size + 1]? = some (.cells #[.int .u8 3, .string ⟨#[]⟩, .string ⟨#[]⟩, .int .i64 0, .int .i64 (i : Int)] 40) := by rw [hW2]; exact two_next ..
  have hbel : Below w.heap.size w W2 := by rw [hW2]; exact (own_below w _).alloc (by simp) _
  rw [← hW2]
  obtain ⟨c0, c1, c2, c3, c4, fz⟩ := tcells hg
  obtain ⟨d0, d1, d2, d3, d4, fy⟩ := tcells ht
  have HG := Lib.hid hg
  have HT := Lib.hid ht
  have HBEL := Lib.hid hbel
  clear hW2 hg ht hbel
  go_wp2_with fail
  refine (HD.out _).mono ?_
  rintro e w' ⟨rfl, rfl⟩
  go_wp2_with fail
  try rw [HF.out]
  refine (HE.out _).mono ?_
  rintro e w' ⟨rfl, rfl⟩
  cases z with
  | false =>
    have HRR := Lib.hid (H12.out (.inl rfl))
    go_wp2_with fail
    refine bodyPost_ret (results_row_tmp2 rfl _ _ w.heap.size 40 _ _ rfl (put5_heap HG.out _ _ _ _ _) Tryz.underlying40 rfl rfl) rfl ?_
    exact ends_no HRR.out (put5_below HBEL.out (Nat.le_refl _) _ _ _ _ _)
  | true =>
    by_cases hl : 1 < F.size ∧ F[0].toNat = 48
    · have HRR := Lib.hid (H12.out (.inr hl))
      obtain ⟨hl1, hl2⟩ := hl
      have t48 : ((F[0].toNat : Int) == 48) = true := by simp; omega
      clear hl2
      go_wp2_with fail
      refine bodyPost_ret (results_row_tmp2 rfl _ _ w.heap.size 40 _ _ rfl (put5_heap HG.out _ _ _ _ _) Tryz.underlying40 rfl rfl) rfl ?_
      exact ends_no HRR.out (put5_below HBEL.out (Nat.le_refl _) _ _ _ _ _)
    · have HL := Lib.hid hl
      obtain ⟨q, hq⟩ : ∃ q, q = ((F[0].toNat : Int) == 48) := ⟨_, rfl⟩
      have hl3 : 1 < F.size → ((F[0].toNat : Int) == 48) = false := fun h => by
        have : ¬ F[0].toNat = 48 := fun e => hl ⟨h, e⟩
        simp; omega
      clear hl hq
      by_cases hbig : 1000 < F.size
      · have HRR := Lib.hid (H14.out rfl HL.out hbig)
        by_cases hl1 : 1 < F.size
        · have t48 := hl3 hl1
          clear hl3
          go_wp2_with fail
          refine bodyPost_ret (results_row_tmp2 rfl _ _ w.heap.size 40 _ _ rfl (put5_heap HG.out _ _ _ _ _) Tryz.underlying40 rfl rfl) rfl ?_
          exact ends_no HRR.out (put5_below HBEL.out (Nat.le_refl _) _ _ _ _ _)
        · exact absurd hbig (by omega)
      · obtain ⟨hRR, hNM⟩ := HOK.out rfl HL.out hbig
        have hb1 : F.size ≤ 1000 := by omega
        have HRR := Lib.hid hRR
        have HNM := Lib.hid hNM
        clear hbig hRR hNM
        by_cases hl1 : 1 < F.size
        · have t48 := hl3 hl1
          clear hl3
          go_wp2_with fail
          refine (HNM.out _).mono ?_
          rintro e w3 ⟨rfl, hb3⟩
          have hg3 := (hb3.block _ (Array.getElem?_eq_some_iff.1 HG.out).1).trans HG.out
          have ht3 := (hb3.block _ (Array.getElem?_eq_some_iff.1 HT.out).1).trans HT.out
          have HG4 := Lib.hid ((Below.heap_setCell w3 ⟨w.heap.size + 1, 2, none⟩ (.string Q) w.heap.size (by show w.heap.size ≠ w.heap.size + 1; omega)).trans hg3)
          have HBE := Lib.hid ((HBEL.out.trans (hb3.mono HBEL.out.size)).setCell (p := ⟨w.heap.size + 1, 2, none⟩) (Nat.le_succ _) (.string Q))
          clear c0 c1 c2 c3 c4 fz d0 d1 d2 d3 d4 fy hb3
          obtain ⟨c0, c1, c2, c3, c4, fz⟩ := tcells hg3
          obtain ⟨d0, d1, d2, d3, d4, fy⟩ := tcells ht3
          clear hg3 ht3
          go_wp2_with fail
          refine bodyPost_ret (results_row_tmp2 rfl _ _ w.heap.size 40 _ _ rfl (put5_heap HG4.out _ _ _ _ _) Tryz.underlying40 rfl rfl) rfl ?_
          show OnePost _ _ _ _ _
          rw [HRR.out]
          exact onePost_yes (by omega) (put5_below HBE.out (Nat.le_refl _) _ _ _ _ _)
        · clear hl3
          go_wp2_with fail
          refine (HNM.out _).mono ?_
          rintro e w3 ⟨rfl, hb3⟩
          have hg3 := (hb3.block _ (Array.getElem?_eq_some_iff.1 HG.out).1).trans HG.out
          have ht3 := (hb3.block _ (Array.getElem?_eq_some_iff.1 HT.out).1).trans HT.out
          have HG4 := Lib.hid ((Below.heap_setCell w3 ⟨w.heap.size + 1, 2, none⟩ (.string Q) w.heap.size (by show w.heap.size ≠ w.heap.size + 1; omega)).trans hg3)
          have HBE := Lib.hid ((HBEL.out.trans (hb3.mono HBEL.out.size)).setCell (p := ⟨w.heap.size + 1, 2, none⟩) (Nat.le_succ _) (.string Q))
          clear c0 c1 c2 c3 c4 fz d0 d1 d2 d3 d4 fy hb3
          obtain ⟨c0, c1, c2, c3, c4, fz⟩ := tcells hg3
          obtain ⟨d0, d1, d2, d3, d4, fy⟩ := tcells ht3
          clear hg3 ht3
          go_wp2_with fail
          refine bodyPost_ret (results_row_tmp2 rfl _ _ w.heap.size 40 _ _ rfl (put5_heap HG4.out _ _ _ _ _) Tryz.underlying40 rfl rfl) rfl ?_
          show OnePost _ _ _ _ _
          rw [HRR.out]
          exact onePost_yes (by omega) (put5_below HBE.out (Nat.le_refl _) _ _ _ _ _)

end Go.Proofs.YtnmiiimbjojcmaaGreatDoor
