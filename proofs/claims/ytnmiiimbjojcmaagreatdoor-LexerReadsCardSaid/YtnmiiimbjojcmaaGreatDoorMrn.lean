/-
  The reference's One at a number: walked. No condition.
-/
import Derived.Test.YtnmiiimbjojcmaaGreatDoorMrk
namespace Go.Proofs.YtnmiiimbjojcmaaGreatDoor
open Go.RowKit Go.Shelf
set_option linter.unusedVariables false

theorem row_alloc {W : World} {g : Nat} {o : Obj} (h : W.heap[g]? = some o) (O : Obj) : (W.alloc O).heap[g]? = some o := (Below.heap_alloc W O g (Array.getElem?_eq_some_iff.1 h).1).trans h
theorem below_alloc {w W : World} (h : Below w.heap.size w W) (O : Obj) : Below w.heap.size w (W.alloc O) := h.alloc h.size O
set_option maxHeartbeats 2000000 in
set_option maxRecDepth 100000 in
theorem rone_num_d (s : ByteArray) (i : Nat) (w : World) (hs : s.size ≤ 20000) (hi : i < s.size) (R : OneR) (HL : Hid (∀ W, Calls Tryz.prog 26 #[.int .u8 (s[i].toNat : Int)] W (RetB W false))) (t34 : ((s[i].toNat : Int) == 34) = false) (HDA : Hid (∀ W, Calls Tryz.prog 29 #[.string s, .int .i64 (i : Int)] W (RetB W false))) (HDG : Hid (∀ W, Calls Tryz.prog 32 #[.int .u8 (s[i].toNat : Int)] W (RetB W true))) (HNU : Hid (∀ W, Calls Tryz.prog 34 #[.string s, .int .i64 (i : Int)] W (OnePost W i R))) :
    Calls Tryz.prog 13 #[.string s, .int .i64 (i : Int)] w (OnePost w i R) := by
  go_enter Tryz.func13, Tryz.ntmps13
  go_wp2_with fail
  refine (HL.out _).mono ?_
  rintro e w' ⟨rfl, rfl⟩
  obtain ⟨W2, hW2⟩ : ∃ W2, W2 = (w.alloc (.cells #[.int .u8 0, .string ⟨#[]⟩, .string ⟨#[]⟩, .int .i64 0, .int .i64 0] 40)).alloc (.cells #[.int .u8 0, .string ⟨#[]⟩, .string ⟨#[]⟩, .int .i64 0, .int .i64 (i : Int)] 40) := ⟨_, rfl⟩
  have hg : W2.heap[w.heap.size]? = some (.cells #[.int .u8 0, .string ⟨#[]⟩, .string ⟨#[]⟩, .int .i64 0, .int .i64 0] 40) := by rw [hW2]; exact two_first ..
  have ht : W2.heap[w.heap.size + 1]? = some (.cells #[.int .u8 0, .string ⟨#[]⟩, .string ⟨#[]⟩, .int .i64 0, .int .i64 (i : Int)] 40) := by rw [hW2]; exact two_next ..
  have hbel : Below w.heap.size w W2 := by rw [hW2]; exact (own_below w _).alloc (by simp) _
  rw [← hW2]
  obtain ⟨c0, c1, c2, c3, c4, fz⟩ := tcells hg
  obtain ⟨d0, d1, d2, d3, d4, fy⟩ := tcells ht
  have HG := Lib.hid hg
  have HT := Lib.hid ht
  have HBEL := Lib.hid hbel
  clear hW2 hg ht hbel
  go_wp2_with fail
  refine (HDA.out _).mono ?_
  rintro e w' ⟨rfl, rfl⟩
  go_wp2_with fail
  refine (HDG.out _).mono ?_
  rintro e w' ⟨rfl, rfl⟩
  go_wp2_with fail
  have HNU := Lib.hid (HNU.out W2)
  cases R with
  | no er =>
    refine HNU.out.mono ?_
    rintro e w3 ⟨⟨K, TT, Q, D, en, rfl⟩, hb3⟩
    have hg3 := (hb3.block _ (Array.getElem?_eq_some_iff.1 HG.out).1).trans HG.out
    have hsz : w.heap.size < w3.heap.size := (Array.getElem?_eq_some_iff.1 hg3).1
    have HG4 := Lib.hid hg3
    have HBE := Lib.hid (HBEL.out.trans (hb3.mono HBEL.out.size))
    clear c0 c1 c2 c3 c4 fz d0 d1 d2 d3 d4 fy hb3
    obtain ⟨c0, c1, c2, c3, c4, fz⟩ := tcells hg3
    clear hg3
    go_wp2_with fail
    refine bodyPost_ret (results_row_tmp2 rfl _ _ w.heap.size 40 _ _ rfl (row_alloc (put5_heap HG4.out _ _ _ _ _) _) Tryz.underlying40 rfl rfl) rfl ?_
    show OnePost _ _ _ _ _
    exact onePost_no (below_alloc (put5_below HBE.out (Nat.le_refl _) _ _ _ _ _) _)
  | yes t n =>
    refine HNU.out.mono ?_
    rintro e w3 ⟨rfl, hb3⟩
    have hg3 := (hb3.block _ (Array.getElem?_eq_some_iff.1 HG.out).1).trans HG.out
    have hsz : w.heap.size < w3.heap.size := (Array.getElem?_eq_some_iff.1 hg3).1
    have HG4 := Lib.hid hg3
    have HBE := Lib.hid (HBEL.out.trans (hb3.mono HBEL.out.size))
    clear c0 c1 c2 c3 c4 fz d0 d1 d2 d3 d4 fy hb3
    obtain ⟨c0, c1, c2, c3, c4, fz⟩ := tcells hg3
    clear hg3
    go_wp2_with fail
    refine bodyPost_ret (results_row_tmp2 rfl _ _ w.heap.size 40 _ _ rfl (row_alloc (put5_heap HG4.out _ _ _ _ _) _) Tryz.underlying40 rfl rfl) rfl ?_
    show OnePost _ _ _ _ _
    exact onePost_yes rfl (below_alloc (put5_below HBE.out (Nat.le_refl _) _ _ _ _ _) _)
set_option maxHeartbeats 2000000 in
set_option maxRecDepth 100000 in
theorem rone_num_m (s : ByteArray) (i : Nat) (w : World) (hs : s.size ≤ 20000) (hi : i < s.size) (R : OneR) (HL : Hid (∀ W, Calls Tryz.prog 26 #[.int .u8 (s[i].toNat : Int)] W (RetB W false))) (t34 : ((s[i].toNat : Int) == 34) = false) (HDA : Hid (∀ W, Calls Tryz.prog 29 #[.string s, .int .i64 (i : Int)] W (RetB W false))) (HDG : Hid (∀ W, Calls Tryz.prog 32 #[.int .u8 (s[i].toNat : Int)] W (RetB W false))) (t45 : ((s[i].toNat : Int) == 45) = true) (HDT : Hid (∀ W, Calls Tryz.prog 33 #[.string s, .int .i64 ((i : Int) + 1)] W (RetB W true))) (HNU : Hid (∀ W, Calls Tryz.prog 34 #[.string s, .int .i64 (i : Int)] W (OnePost W i R))) :
    Calls Tryz.prog 13 #[.string s, .int .i64 (i : Int)] w (OnePost w i R) := by
  go_enter Tryz.func13, Tryz.ntmps13
  go_wp2_with fail
  refine (HL.out _).mono ?_
  rintro e w' ⟨rfl, rfl⟩
  obtain ⟨W2, hW2⟩ : ∃ W2, W2 = (w.alloc (.cells #[.int .u8 0, .string ⟨#[]⟩, .string ⟨#[]⟩, .int .i64 0, .int .i64 0] 40)).alloc (.cells #[.int .u8 0, .string ⟨#[]⟩, .string ⟨#[]⟩, .int .i64 0, .int .i64 (i : Int)] 40) := ⟨_, rfl⟩
  have hg : W2.heap[w.heap.size]? = some (.cells #[.int .u8 0, .string ⟨#[]⟩, .string ⟨#[]⟩, .int .i64 0, .int .i64 0] 40) := by rw [hW2]; exact two_first ..
  have ht : W2.heap[w.heap.size + 1]? = some (.cells #[.int .u8 0, .string ⟨#[]⟩, .string ⟨#[]⟩, .int .i64 0, .int .i64 (i : Int)] 40) := by rw [hW2]; exact two_next ..
  have hbel : Below w.heap.size w W2 := by rw [hW2]; exact (own_below w _).alloc (by simp) _
  rw [← hW2]
  obtain ⟨c0, c1, c2, c3, c4, fz⟩ := tcells hg
  obtain ⟨d0, d1, d2, d3, d4, fy⟩ := tcells ht
  have HG := Lib.hid hg
  have HT := Lib.hid ht
  have HBEL := Lib.hid hbel
  clear hW2 hg ht hbel
  go_wp2_with fail
  refine (HDA.out _).mono ?_
  rintro e w' ⟨rfl, rfl⟩
  go_wp2_with fail
  refine (HDG.out _).mono ?_
  rintro e w' ⟨rfl, rfl⟩
  go_wp2_with fail
  refine (HDT.out _).mono ?_
  rintro e w' ⟨rfl, rfl⟩
  go_wp2_with fail
  have HNU := Lib.hid (HNU.out W2)
  cases R with
  | no er =>
    refine HNU.out.mono ?_
    rintro e w3 ⟨⟨K, TT, Q, D, en, rfl⟩, hb3⟩
    have hg3 := (hb3.block _ (Array.getElem?_eq_some_iff.1 HG.out).1).trans HG.out
    have hsz : w.heap.size < w3.heap.size := (Array.getElem?_eq_some_iff.1 hg3).1
    have HG4 := Lib.hid hg3
    have HBE := Lib.hid (HBEL.out.trans (hb3.mono HBEL.out.size))
    clear c0 c1 c2 c3 c4 fz d0 d1 d2 d3 d4 fy hb3
    obtain ⟨c0, c1, c2, c3, c4, fz⟩ := tcells hg3
    clear hg3
    go_wp2_with fail
    refine bodyPost_ret (results_row_tmp2 rfl _ _ w.heap.size 40 _ _ rfl (row_alloc (put5_heap HG4.out _ _ _ _ _) _) Tryz.underlying40 rfl rfl) rfl ?_
    show OnePost _ _ _ _ _
    exact onePost_no (below_alloc (put5_below HBE.out (Nat.le_refl _) _ _ _ _ _) _)
  | yes t n =>
    refine HNU.out.mono ?_
    rintro e w3 ⟨rfl, hb3⟩
    have hg3 := (hb3.block _ (Array.getElem?_eq_some_iff.1 HG.out).1).trans HG.out
    have hsz : w.heap.size < w3.heap.size := (Array.getElem?_eq_some_iff.1 hg3).1
    have HG4 := Lib.hid hg3
    have HBE := Lib.hid (HBEL.out.trans (hb3.mono HBEL.out.size))
    clear c0 c1 c2 c3 c4 fz d0 d1 d2 d3 d4 fy hb3
    obtain ⟨c0, c1, c2, c3, c4, fz⟩ := tcells hg3
    clear hg3
    go_wp2_with fail
    refine bodyPost_ret (results_row_tmp2 rfl _ _ w.heap.size 40 _ _ rfl (row_alloc (put5_heap HG4.out _ _ _ _ _) _) Tryz.underlying40 rfl rfl) rfl ?_
    show OnePost _ _ _ _ _
    exact onePost_yes rfl (below_alloc (put5_below HBE.out (Nat.le_refl _) _ _ _ _ _) _)

end Go.Proofs.YtnmiiimbjojcmaaGreatDoor
