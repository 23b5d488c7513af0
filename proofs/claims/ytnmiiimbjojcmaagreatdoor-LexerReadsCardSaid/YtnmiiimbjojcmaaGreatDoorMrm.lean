/-
  The reference's One: walked. No condition.
-/
import Derived.Test.YtnmiiimbjojcmaaGreatDoorMrk
import Derived.Test.YtnmiiimbjojcmaaGreatDoorMrd
import Derived.Test.YtnmiiimbjojcmaaGreatDoorMrl
namespace Go.Proofs.YtnmiiimbjojcmaaGreatDoor
open Go.RowKit Go.Shelf
set_option linter.unusedVariables false

theorem far1 {W : World} {g : Nat} {o : Option Obj} (h : W.heap[g]? = o) (j : Nat) (v : Value) : (W.setCell ⟨g + 1, j, none⟩ v).heap[g]? = o :=
  (Below.heap_setCell W ⟨g + 1, j, none⟩ v g (by show g ≠ g + 1; omega)).trans h
theorem below1 {W w : World} (h : Below w.heap.size w W) (j : Nat) (v : Value) : Below w.heap.size w (W.setCell ⟨w.heap.size + 1, j, none⟩ v) := h.setCell (p := ⟨w.heap.size + 1, j, none⟩) (Nat.le_succ _) v
def SpR (p : UInt8 → Bool) (s : ByteArray) (i F : Nat) (v : Value) : Prop := ∃ j : Nat, i ≤ j ∧ j ≤ s.size ∧ v = .int .i64 (j : Int) ∧ Hid (j + spn p (s.data.toList.drop j) = F)
theorem sp_next {p : UInt8 → Bool} {s : ByteArray} {j F : Nat} (hj : j < s.size) (h : j + spn p (s.data.toList.drop j) = F) : (p s[j] = true → j + 1 + spn p (s.data.toList.drop (j + 1)) = F) ∧ (p s[j] = false → j = F) := by
  rw [dropAt s j hj] at h
  constructor
  · intro hp; unfold spn at h; rw [if_pos hp] at h; omega
  · intro hp; unfold spn at h; rw [if_neg (by rw [hp]; decide)] at h; omega
theorem sp_all {p : UInt8 → Bool} {s : ByteArray} {F : Nat} (h : s.size + spn p (s.data.toList.drop s.size) = F) : s.size = F := by rw [dropAll] at h; exact h
theorem name_rf (t : ByteArray) (b : Bool) (h : nmB t.data.toList = b) : Hid (∀ W, Calls Tryz.prog 28 #[.string t] W (RetB W b)) := fun W => h ▸ rname_any t W
set_option maxHeartbeats 2000000 in
set_option maxRecDepth 100000 in
theorem rone_word1 (s : ByteArray) (i : Nat) (w : World) (hs : s.size ≤ 20000) (hi : i < s.size) (R : OneR) (HL : Hid (∀ W, Calls Tryz.prog 26 #[.int .u8 (s[i].toNat : Int)] W (RetB W true))) (E : Nat) (TX : ByteArray) (hE : Hid (i + 1 + spn wdQ (s.data.toList.drop (i + 1)) = E)) (hiE : i < E) (hEs : E ≤ s.size) (htx : s.extract i E = TX) (hb : decide ((40 : Int) < (TX.size : Int)) = false) (HR : Hid (R = .yes ⟨1, TX, bsL [], 0, 0⟩ (E - i))) :
    Calls Tryz.prog 13 #[.string s, .int .i64 (i : Int)] w (OnePost w i R) := by
  go_enter Tryz.func13, Tryz.ntmps13
  go_wp2_with fail
  refine (HL.out _).mono ?_
  rintro e w' ⟨rfl, rfl⟩
  obtain ⟨W2, hW2⟩ : ∃ W2, W2 = (w.alloc (.cells #[.int .u8 0, .string ⟨#[]⟩, .string ⟨#[]⟩, .int .i64 0, .int .i64 0] 40)).alloc (.cells #[.int .u8 0, .string ⟨#[]⟩, .string ⟨#[]⟩, .int .i64 0, .int .i64 (i : Int)] 40) := ⟨_, rfl⟩
  have hg : W2.heap[w.heap.size]? = some (.cells #[.int .u8 0, .string ⟨#[]⟩, .string ⟨#[]⟩, .int .i64 0, .int .i64 0] 40) := by rw [hW2]; exact two_first ..
  have ht : W2.heap[w.heap.size + 1]? = some (.cells #[.int .u8 0, .string ⟨#[]⟩, .string ⟨#[]⟩, .int .i64 0, .int .i64 (i : Int)] 40) := by rw [hW2]; exact two_next ..
  have hbel : Below w.heap.size w W2 := by rw [hW2]; exact (own_below w _).alloc (by simp) _
  rw [← hW2]
  obtain ⟨c0, c1, c2, c3, c4, fz⟩ := tcells hg
  obtain ⟨d0, d1, d2, d3, d4, fy⟩ := tcells ht
  have HG := Lib.hid hg
  have HT := Lib.hid ht
  have HBEL := Lib.hid hbel
  clear hW2 hg ht hbel
  have HTX := Lib.hid htx
  clear htx
  go_wp2_with fail
  go_loop [9] (fun v => SpR wdQ s (i + 1) E v) (fun v => s.size - (intOf v).toNat)
  case atStart => exact ⟨i + 1, Nat.le_refl _, hi, by go_num, hE⟩
  case round =>
    obtain ⟨j, hij, hj, rfl, HJ⟩ := hrel
    by_cases hlt : j < s.size
    · obtain ⟨n1, n2⟩ := sp_next hlt HJ.out
      have HI := Lib.hid (fun W => inner_rf s[j] W)
      cases hw : wdQ s[j] with
      | true =>
        rw [hw] at HI
        have HX := Lib.hid (n1 hw)
        clear n1 n2 hw
        go_wp2_with fail
        refine (HI.out _).mono ?_
        rintro e w' ⟨rfl, rfl⟩
        go_wp2_with fail
        go_round
        case rel => exact ⟨j + 1, by omega, by omega, by go_num, HX⟩
        case measure => simp [intOf] <;> omega
      | false =>
        rw [hw] at HI
        obtain rfl : j = E := n2 hw
        have htx := HTX.out
        clear n1 n2 hw HJ
        go_wp2_with fail
        refine (HI.out _).mono ?_
        rintro e w' ⟨rfl, rfl⟩
        go_wp2_with fail
        refine bodyPost_ret (results_row_tmp2 rfl _ _ w.heap.size 40 _ _ rfl (put5_heap (far1 (far1 HG.out _ _) _ _) _ _ _ _ _) Tryz.underlying40 rfl rfl) rfl ?_
        show OnePost _ _ _ _ _
        rw [HR.out]
        exact onePost_yes (by omega) (put5_below (below1 (below1 HBEL.out _ _) _ _) (Nat.le_refl _) _ _ _ _ _)
    · obtain rfl : j = s.size := by omega
      obtain rfl : s.size = E := sp_all HJ.out
      have htx := HTX.out
      clear HJ
      go_wp2_with fail
      refine bodyPost_ret (results_row_tmp2 rfl _ _ w.heap.size 40 _ _ rfl (put5_heap (far1 (far1 HG.out _ _) _ _) _ _ _ _ _) Tryz.underlying40 rfl rfl) rfl ?_
      show OnePost _ _ _ _ _
      rw [HR.out]
      exact onePost_yes (by omega) (put5_below (below1 (below1 HBEL.out _ _) _ _) (Nat.le_refl _) _ _ _ _ _)
set_option maxHeartbeats 2000000 in
set_option maxRecDepth 100000 in
theorem rone_word0 (s : ByteArray) (i : Nat) (w : World) (hs : s.size ≤ 20000) (hi : i < s.size) (R : OneR) (HL : Hid (∀ W, Calls Tryz.prog 26 #[.int .u8 (s[i].toNat : Int)] W (RetB W true))) (E : Nat) (TX : ByteArray) (hE : Hid (i + 1 + spn wdQ (s.data.toList.drop (i + 1)) = E)) (hiE : i < E) (hEs : E ≤ s.size) (htx : s.extract i E = TX) (hb : decide ((40 : Int) < (TX.size : Int)) = true) (HR : Hid (R = .no 12)) :
    Calls Tryz.prog 13 #[.string s, .int .i64 (i : Int)] w (OnePost w i R) := by
  go_enter Tryz.func13, Tryz.ntmps13
  go_wp2_with fail
  refine (HL.out _).mono ?_
  rintro e w' ⟨rfl, rfl⟩
  obtain ⟨W2, hW2⟩ : ∃ W2, W2 = (w.alloc (.cells #[.int .u8 0, .string ⟨#[]⟩, .string ⟨#[]⟩, .int .i64 0, .int .i64 0] 40)).alloc (.cells #[.int .u8 0, .string ⟨#[]⟩, .string ⟨#[]⟩, .int .i64 0, .int .i64 (i : Int)] 40) := ⟨_, rfl⟩
  have hg : W2.heap[w.heap.size]? = some (.cells #[.int .u8 0, .string ⟨#[]⟩, .string ⟨#[]⟩, .int .i64 0, .int .i64 0] 40) := by rw [hW2]; exact two_first ..
  have ht : W2.heap[w.heap.size + 1]? = some (.cells #[.int .u8 0, .string ⟨#[]⟩, .string ⟨#[]⟩, .int .i64 0, .int .i64 (i : Int)] 40) := by rw [hW2]; exact two_next ..
  have hbel : Below w.heap.size w W2 := by rw [hW2]; exact (own_below w _).alloc (by simp) _
  rw [← hW2]
  obtain ⟨c0, c1, c2, c3, c4, fz⟩ := tcells hg
  obtain ⟨d0, d1, d2, d3, d4, fy⟩ := tcells ht
  have HG := Lib.hid hg
  have HT := Lib.hid ht
  have HBEL := Lib.hid hbel
  clear hW2 hg ht hbel
  have HTX := Lib.hid htx
  clear htx
  go_wp2_with fail
  go_loop [9] (fun v => SpR wdQ s (i + 1) E v) (fun v => s.size - (intOf v).toNat)
  case atStart => exact ⟨i + 1, Nat.le_refl _, hi, by go_num, hE⟩
  case round =>
    obtain ⟨j, hij, hj, rfl, HJ⟩ := hrel
    by_cases hlt : j < s.size
    · obtain ⟨n1, n2⟩ := sp_next hlt HJ.out
      have HI := Lib.hid (fun W => inner_rf s[j] W)
      cases hw : wdQ s[j] with
      | true =>
        rw [hw] at HI
        have HX := Lib.hid (n1 hw)
        clear n1 n2 hw
        go_wp2_with fail
        refine (HI.out _).mono ?_
        rintro e w' ⟨rfl, rfl⟩
        go_wp2_with fail
        go_round
        case rel => exact ⟨j + 1, by omega, by omega, by go_num, HX⟩
        case measure => simp [intOf] <;> omega
      | false =>
        rw [hw] at HI
        obtain rfl : j = E := n2 hw
        have htx := HTX.out
        clear n1 n2 hw HJ
        go_wp2_with fail
        refine (HI.out _).mono ?_
        rintro e w' ⟨rfl, rfl⟩
        go_wp2_with fail
        refine bodyPost_ret (results_row_tmp2 rfl _ _ w.heap.size 40 _ _ rfl (put5_heap (far1 (far1 HG.out _ _) _ _) _ _ _ _ _) Tryz.underlying40 rfl rfl) rfl ?_
        show OnePost _ _ _ _ _
        rw [HR.out]
        exact onePost_no (put5_below (below1 (below1 HBEL.out _ _) _ _) (Nat.le_refl _) _ _ _ _ _)
    · obtain rfl : j = s.size := by omega
      obtain rfl : s.size = E := sp_all HJ.out
      have htx := HTX.out
      clear HJ
      go_wp2_with fail
      refine bodyPost_ret (results_row_tmp2 rfl _ _ w.heap.size 40 _ _ rfl (put5_heap (far1 (far1 HG.out _ _) _ _) _ _ _ _ _) Tryz.underlying40 rfl rfl) rfl ?_
      show OnePost _ _ _ _ _
      rw [HR.out]
      exact onePost_no (put5_below (below1 (below1 HBEL.out _ _) _ _) (Nat.le_refl _) _ _ _ _ _)
set_option maxHeartbeats 2000000 in
set_option maxRecDepth 100000 in
theorem rone_quote0 (s : ByteArray) (i : Nat) (w : World) (hs : s.size ≤ 20000) (hi : i < s.size) (R : OneR) (HL : Hid (∀ W, Calls Tryz.prog 26 #[.int .u8 (s[i].toNat : Int)] W (RetB W false))) (t34 : ((s[i].toNat : Int) == 34) = true) (E : Nat) (hE : Hid (i + 1 + spn (fun x => decide (x.toNat ≠ 34)) (s.data.toList.drop (i + 1)) = E)) (hiE : i < E) (hEs : E = s.size) (HR : Hid (R = .no 12)) :
    Calls Tryz.prog 13 #[.string s, .int .i64 (i : Int)] w (OnePost w i R) := by
  go_enter Tryz.func13, Tryz.ntmps13
  go_wp2_with fail
  refine (HL.out _).mono ?_
  rintro e w' ⟨rfl, rfl⟩
  obtain ⟨W2, hW2⟩ : ∃ W2, W2 = (w.alloc (.cells #[.int .u8 0, .string ⟨#[]⟩, .string ⟨#[]⟩, .int .i64 0, .int .i64 0] 40)).alloc (.cells #[.int .u8 0, .string ⟨#[]⟩, .string ⟨#[]⟩, .int .i64 0, .int .i64 (i : Int)] 40) := ⟨_, rfl⟩
  have hg : W2.heap[w.heap.size]? = some (.cells #[.int .u8 0, .string ⟨#[]⟩, .string ⟨#[]⟩, .int .i64 0, .int .i64 0] 40) := by rw [hW2]; exact two_first ..
  have ht : W2.heap[w.heap.size + 1]? = some (.cells #[.int .u8 0, .string ⟨#[]⟩, .string ⟨#[]⟩, .int .i64 0, .int .i64 (i : Int)] 40) := by rw [hW2]; exact two_next ..
  have hbel : Below w.heap.size w W2 := by rw [hW2]; exact (own_below w _).alloc (by simp) _
  rw [← hW2]
  obtain ⟨c0, c1, c2, c3, c4, fz⟩ := tcells hg
  obtain ⟨d0, d1, d2, d3, d4, fy⟩ := tcells ht
  have HG := Lib.hid hg
  have HT := Lib.hid ht
  have HBEL := Lib.hid hbel
  clear hW2 hg ht hbel
  go_wp2_with fail
  go_loop [9] (fun v => SpR (fun x => decide (x.toNat ≠ 34)) s (i + 1) E v) (fun v => s.size - (intOf v).toNat)
  case atStart => exact ⟨i + 1, Nat.le_refl _, hi, by go_num, hE⟩
  case round =>
    obtain ⟨j, hij, hj, rfl, HJ⟩ := hrel
    by_cases hlt : j < s.size
    · obtain ⟨n1, n2⟩ := sp_next hlt HJ.out
      by_cases hw : s[j].toNat = 34
      · obtain rfl : j = E := n2 (by simp [hw])
        have u1 : ((s[j].toNat : Int) != 34) = false := by simp; omega
        clear n1 n2 hw HJ
        exact absurd hEs (by omega)
      · have HX := Lib.hid (n1 (by simp [hw]))
        have u1 : ((s[j].toNat : Int) != 34) = true := by simp; omega
        clear n1 n2 hw
        go_wp2_with fail
        go_round
        case rel => exact ⟨j + 1, by omega, by omega, by go_num, HX⟩
        case measure => simp [intOf] <;> omega
    · obtain rfl : j = s.size := by omega
      have hsE : s.size = E := sp_all HJ.out
      clear HJ
      subst hsE
      go_wp2_with fail
      refine bodyPost_ret (results_row_tmp2 rfl _ _ w.heap.size 40 _ _ rfl (put5_heap HG.out _ _ _ _ _) Tryz.underlying40 rfl rfl) rfl ?_
      show OnePost _ _ _ _ _
      rw [HR.out]
      exact onePost_no (put5_below HBEL.out (Nat.le_refl _) _ _ _ _ _)
set_option maxHeartbeats 2000000 in
set_option maxRecDepth 100000 in
theorem rone_quote1 (s : ByteArray) (i : Nat) (w : World) (hs : s.size ≤ 20000) (hi : i < s.size) (R : OneR) (HL : Hid (∀ W, Calls Tryz.prog 26 #[.int .u8 (s[i].toNat : Int)] W (RetB W false))) (t34 : ((s[i].toNat : Int) == 34) = true) (E : Nat) (hE : Hid (i + 1 + spn (fun x => decide (x.toNat ≠ 34)) (s.data.toList.drop (i + 1)) = E)) (hiE : i < E) (hEs : E < s.size) (TX : ByteArray) (htx : s.extract (i + 1) E = TX) (HN : Hid (∀ W, Calls Tryz.prog 28 #[.string TX] W (RetB W false))) (HR : Hid (R = .no 12)) :
    Calls Tryz.prog 13 #[.string s, .int .i64 (i : Int)] w (OnePost w i R) := by
  go_enter Tryz.func13, Tryz.ntmps13
  go_wp2_with fail
  refine (HL.out _).mono ?_
  rintro e w' ⟨rfl, rfl⟩
  obtain ⟨W2, hW2⟩ : ∃ W2, W2 = (w.alloc (.cells #[.int .u8 0, .string ⟨#[]⟩, .string ⟨#[]⟩, .int .i64 0, .int .i64 0] 40)).alloc (.cells #[.int .u8 0, .string ⟨#[]⟩, .string ⟨#[]⟩, .int .i64 0, .int .i64 (i : Int)] 40) := ⟨_, rfl⟩
  have hg : W2.heap[w.heap.size]? = some (.cells #[.int .u8 0, .string ⟨#[]⟩, .string ⟨#[]⟩, .int .i64 0, .int .i64 0] 40) := by rw [hW2]; exact two_first ..
  have ht : W2.heap[w.heap.size + 1]? = some (.cells #[.int .u8 0, .string ⟨#[]⟩, .string ⟨#[]⟩, .int .i64 0, .int .i64 (i : Int)] 40) := by rw [hW2]; exact two_next ..
  have hbel : Below w.heap.size w W2 := by rw [hW2]; exact (own_below w _).alloc (by simp) _
  rw [← hW2]
  obtain ⟨c0, c1, c2, c3, c4, fz⟩ := tcells hg
  obtain ⟨d0, d1, d2, d3, d4, fy⟩ := tcells ht
  have HG := Lib.hid hg
  have HT := Lib.hid ht
  have HBEL := Lib.hid hbel
  clear hW2 hg ht hbel
  have HTX := Lib.hid htx
  clear htx
  go_wp2_with fail
  go_loop [9] (fun v => SpR (fun x => decide (x.toNat ≠ 34)) s (i + 1) E v) (fun v => s.size - (intOf v).toNat)
  case atStart => exact ⟨i + 1, Nat.le_refl _, hi, by go_num, hE⟩
  case round =>
    obtain ⟨j, hij, hj, rfl, HJ⟩ := hrel
    by_cases hlt : j < s.size
    · obtain ⟨n1, n2⟩ := sp_next hlt HJ.out
      by_cases hw : s[j].toNat = 34
      · obtain rfl : j = E := n2 (by simp [hw])
        have u1 : ((s[j].toNat : Int) != 34) = false := by simp; omega
        clear n1 n2 hw HJ
        go_wp2_with fail
        rw [HTX.out]
        refine (HN.out _).mono ?_
        rintro e w' ⟨rfl, rfl⟩
        have htx := HTX.out
        go_wp2_with fail
        refine bodyPost_ret (results_row_tmp2 rfl _ _ w.heap.size 40 _ _ rfl (put5_heap HG.out _ _ _ _ _) Tryz.underlying40 rfl rfl) rfl ?_
        show OnePost _ _ _ _ _
        rw [HR.out]
        exact onePost_no (put5_below HBEL.out (Nat.le_refl _) _ _ _ _ _)
      · have HX := Lib.hid (n1 (by simp [hw]))
        have u1 : ((s[j].toNat : Int) != 34) = true := by simp; omega
        clear n1 n2 hw
        go_wp2_with fail
        go_round
        case rel => exact ⟨j + 1, by omega, by omega, by go_num, HX⟩
        case measure => simp [intOf] <;> omega
    · obtain rfl : j = s.size := by omega
      have hsE : s.size = E := sp_all HJ.out
      clear HJ
      exact absurd hEs (by omega)
set_option maxHeartbeats 2000000 in
set_option maxRecDepth 100000 in
theorem rone_quote2 (s : ByteArray) (i : Nat) (w : World) (hs : s.size ≤ 20000) (hi : i < s.size) (R : OneR) (HL : Hid (∀ W, Calls Tryz.prog 26 #[.int .u8 (s[i].toNat : Int)] W (RetB W false))) (t34 : ((s[i].toNat : Int) == 34) = true) (E : Nat) (hE : Hid (i + 1 + spn (fun x => decide (x.toNat ≠ 34)) (s.data.toList.drop (i + 1)) = E)) (hiE : i < E) (hEs : E < s.size) (TX : ByteArray) (htx : s.extract (i + 1) E = TX) (HN : Hid (∀ W, Calls Tryz.prog 28 #[.string TX] W (RetB W true))) (HR : Hid (R = .yes ⟨2, TX, bsL [], 0, 0⟩ (E + 1 - i))) :
    Calls Tryz.prog 13 #[.string s, .int .i64 (i : Int)] w (OnePost w i R) := by
  go_enter Tryz.func13, Tryz.ntmps13
  go_wp2_with fail
  refine (HL.out _).mono ?_
  rintro e w' ⟨rfl, rfl⟩
  obtain ⟨W2, hW2⟩ : ∃ W2, W2 = (w.alloc (.cells #[.int .u8 0, .string ⟨#[]⟩, .string ⟨#[]⟩, .int .i64 0, .int .i64 0] 40)).alloc (.cells #[.int .u8 0, .string ⟨#[]⟩, .string ⟨#[]⟩, .int .i64 0, .int .i64 (i : Int)] 40) := ⟨_, rfl⟩
  have hg : W2.heap[w.heap.size]? = some (.cells #[.int .u8 0, .string ⟨#[]⟩, .string ⟨#[]⟩, .int .i64 0, .int .i64 0] 40) := by rw [hW2]; exact two_first ..
  have ht : W2.heap[w.heap.size + 1]? = some (.cells #[.int .u8 0, .string ⟨#[]⟩, .string ⟨#[]⟩, .int .i64 0, .int .i64 (i : Int)] 40) := by rw [hW2]; exact two_next ..
  have hbel : Below w.heap.size w W2 := by rw [hW2]; exact (own_below w _).alloc (by simp) _
  rw [← hW2]
  obtain ⟨c0, c1, c2, c3, c4, fz⟩ := tcells hg
  obtain ⟨d0, d1, d2, d3, d4, fy⟩ := tcells ht
  have HG := Lib.hid hg
  have HT := Lib.hid ht
  have HBEL := Lib.hid hbel
  clear hW2 hg ht hbel
  have HTX := Lib.hid htx
  clear htx
  go_wp2_with fail
  go_loop [9] (fun v => SpR (fun x => decide (x.toNat ≠ 34)) s (i + 1) E v) (fun v => s.size - (intOf v).toNat)
  case atStart => exact ⟨i + 1, Nat.le_refl _, hi, by go_num, hE⟩
  case round =>
    obtain ⟨j, hij, hj, rfl, HJ⟩ := hrel
    by_cases hlt : j < s.size
    · obtain ⟨n1, n2⟩ := sp_next hlt HJ.out
      by_cases hw : s[j].toNat = 34
      · obtain rfl : j = E := n2 (by simp [hw])
        have u1 : ((s[j].toNat : Int) != 34) = false := by simp; omega
        clear n1 n2 hw HJ
        go_wp2_with fail
        rw [HTX.out]
        refine (HN.out _).mono ?_
        rintro e w' ⟨rfl, rfl⟩
        have htx := HTX.out
        go_wp2_with fail
        refine bodyPost_ret (results_row_tmp2 rfl _ _ w.heap.size 40 _ _ rfl (put5_heap (far1 (far1 HG.out _ _) _ _) _ _ _ _ _) Tryz.underlying40 rfl rfl) rfl ?_
        show OnePost _ _ _ _ _
        rw [HR.out]
        exact onePost_yes (by omega) (put5_below (below1 (below1 HBEL.out _ _) _ _) (Nat.le_refl _) _ _ _ _ _)
      · have HX := Lib.hid (n1 (by simp [hw]))
        have u1 : ((s[j].toNat : Int) != 34) = true := by simp; omega
        clear n1 n2 hw
        go_wp2_with fail
        go_round
        case rel => exact ⟨j + 1, by omega, by omega, by go_num, HX⟩
        case measure => simp [intOf] <;> omega
    · obtain rfl : j = s.size := by omega
      have hsE : s.size = E := sp_all HJ.out
      clear HJ
      exact absurd hEs (by omega)
set_option maxHeartbeats 2000000 in
set_option maxRecDepth 100000 in
theorem rone_day0 (s : ByteArray) (i : Nat) (w : World) (hs : s.size ≤ 20000) (hi : i < s.size) (R : OneR) (HL : Hid (∀ W, Calls Tryz.prog 26 #[.int .u8 (s[i].toNat : Int)] W (RetB W false))) (t34 : ((s[i].toNat : Int) == 34) = false) (HDA : Hid (∀ W, Calls Tryz.prog 29 #[.string s, .int .i64 (i : Int)] W (RetB W true))) (h10 : i + 10 ≤ s.size) (HEN : Hid (∀ W, Calls Tryz.prog 30 #[.string s, .int .i64 ((i : Int) + 10)] W (RetB W false))) (HR : Hid (R = .no 12)) :
    Calls Tryz.prog 13 #[.string s, .int .i64 (i : Int)] w (OnePost w i R) := by
  go_enter Tryz.func13, Tryz.ntmps13
  go_wp2_with fail
  refine (HL.out _).mono ?_
  rintro e w' ⟨rfl, rfl⟩
  obtain ⟨W2, hW2⟩ : ∃ W2, W2 = (w.alloc (.cells #[.int .u8 0, .string ⟨#[]⟩, .string ⟨#[]⟩, .int .i64 0, .int .i64 0] 40)).alloc (.cells #[.int .u8 0, .string ⟨#[]⟩, .string ⟨#[]⟩, .int .i64 0, .int .i64 (i : Int)] 40) := ⟨_, rfl⟩
  have hg : W2.heap[w.heap.size]? = some (.cells #[.int .u8 0, .string ⟨#[]⟩, .string ⟨#[]⟩, .int .i64 0, .int .i64 0] 40) := by rw [hW2]; exact two_first ..
  have ht : W2.heap[w.heap.size + 1]? = some (.cells #[.int .u8 0, .string ⟨#[]⟩, .string ⟨#[]⟩, .int .i64 0, .int .i64 (i : Int)] 40) := by rw [hW2]; exact two_next ..
  have hbel : Below w.heap.size w W2 := by rw [hW2]; exact (own_below w _).alloc (by simp) _
  rw [← hW2]
  obtain ⟨c0, c1, c2, c3, c4, fz⟩ := tcells hg
  obtain ⟨d0, d1, d2, d3, d4, fy⟩ := tcells ht
  have HG := Lib.hid hg
  have HT := Lib.hid ht
  have HBEL := Lib.hid hbel
  clear hW2 hg ht hbel
  go_wp2_with fail
  refine (HDA.out _).mono ?_
  rintro e w' ⟨rfl, rfl⟩
  go_wp2_with fail
  refine (HEN.out _).mono ?_
  rintro e w' ⟨rfl, rfl⟩
  go_wp2_with fail
  refine bodyPost_ret (results_row_tmp2 rfl _ _ w.heap.size 40 _ _ rfl (put5_heap HG.out _ _ _ _ _) Tryz.underlying40 rfl rfl) rfl ?_
  show OnePost _ _ _ _ _
  rw [HR.out]
  exact onePost_no (put5_below HBEL.out (Nat.le_refl _) _ _ _ _ _)
set_option maxHeartbeats 2000000 in
set_option maxRecDepth 100000 in
theorem rone_day1 (s : ByteArray) (i : Nat) (w : World) (hs : s.size ≤ 20000) (hi : i < s.size) (R : OneR) (HL : Hid (∀ W, Calls Tryz.prog 26 #[.int .u8 (s[i].toNat : Int)] W (RetB W false))) (t34 : ((s[i].toNat : Int) == 34) = false) (HDA : Hid (∀ W, Calls Tryz.prog 29 #[.string s, .int .i64 (i : Int)] W (RetB W true))) (h10 : i + 10 ≤ s.size) (HEN : Hid (∀ W, Calls Tryz.prog 30 #[.string s, .int .i64 ((i : Int) + 10)] W (RetB W true))) (v q : Int) (hq : (q != 0) = true) (TX : ByteArray) (htx : s.extract i (i + 10) = TX) (HP : Hid (∀ W, Calls Tryz.prog 31 #[.string TX] W (NumQ W v q))) (HR : Hid (R = .no 40)) :
    Calls Tryz.prog 13 #[.string s, .int .i64 (i : Int)] w (OnePost w i R) := by
  go_enter Tryz.func13, Tryz.ntmps13
  go_wp2_with fail
  refine (HL.out _).mono ?_
  rintro e w' ⟨rfl, rfl⟩
  obtain ⟨W2, hW2⟩ : ∃ W2, W2 = (w.alloc (.cells #[.int .u8 0, .string ⟨#[]⟩, .string ⟨#[]⟩, .int .i64 0, .int .i64 0] 40)).alloc (.cells #[.int .u8 0, .string ⟨#[]⟩, .string ⟨#[]⟩, .int .i64 0, .int .i64 (i : Int)] 40) := ⟨_, rfl⟩
  have hg : W2.heap[w.heap.size]? = some (.cells #[.int .u8 0, .string ⟨#[]⟩, .string ⟨#[]⟩, .int .i64 0, .int .i64 0] 40) := by rw [hW2]; exact two_first ..
  have ht : W2.heap[w.heap.size + 1]? = some (.cells #[.int .u8 0, .string ⟨#[]⟩, .string ⟨#[]⟩, .int .i64 0, .int .i64 (i : Int)] 40) := by rw [hW2]; exact two_next ..
  have hbel : Below w.heap.size w W2 := by rw [hW2]; exact (own_below w _).alloc (by simp) _
  rw [← hW2]
  obtain ⟨c0, c1, c2, c3, c4, fz⟩ := tcells hg
  obtain ⟨d0, d1, d2, d3, d4, fy⟩ := tcells ht
  have HG := Lib.hid hg
  have HT := Lib.hid ht
  have HBEL := Lib.hid hbel
  clear hW2 hg ht hbel
  have HTX := Lib.hid htx
  clear htx
  go_wp2_with fail
  refine (HDA.out _).mono ?_
  rintro e w' ⟨rfl, rfl⟩
  go_wp2_with fail
  refine (HEN.out _).mono ?_
  rintro e w' ⟨rfl, rfl⟩
  go_wp2_with fail
  rw [HTX.out]
  refine (HP.out _).mono ?_
  rintro e w3 ⟨rfl, hb3⟩
  have hg3 := (hb3.block _ (Array.getElem?_eq_some_iff.1 HG.out).1).trans HG.out
  have ht3 := (hb3.block _ (Array.getElem?_eq_some_iff.1 HT.out).1).trans HT.out
  have HG3 := Lib.hid hg3
  have HBE := Lib.hid (HBEL.out.trans (hb3.mono HBEL.out.size))
  clear c0 c1 c2 c3 c4 fz d0 d1 d2 d3 d4 fy hb3 HG HT HBEL
  have HG := HG3
  have HBEL := HBE
  clear HG3 HBE
  obtain ⟨c0, c1, c2, c3, c4, fz⟩ := tcells hg3
  obtain ⟨d0, d1, d2, d3, d4, fy⟩ := tcells ht3
  clear hg3 ht3
  go_wp2_with fail
  refine bodyPost_ret (results_row_tmp2 rfl _ _ w.heap.size 40 _ _ rfl (put5_heap HG.out _ _ _ _ _) Tryz.underlying40 rfl rfl) rfl ?_
  show OnePost _ _ _ _ _
  rw [HR.out]
  exact onePost_no (put5_below HBEL.out (Nat.le_refl _) _ _ _ _ _)
set_option maxHeartbeats 2000000 in
set_option maxRecDepth 100000 in
theorem rone_day2 (s : ByteArray) (i : Nat) (w : World) (hs : s.size ≤ 20000) (hi : i < s.size) (R : OneR) (HL : Hid (∀ W, Calls Tryz.prog 26 #[.int .u8 (s[i].toNat : Int)] W (RetB W false))) (t34 : ((s[i].toNat : Int) == 34) = false) (HDA : Hid (∀ W, Calls Tryz.prog 29 #[.string s, .int .i64 (i : Int)] W (RetB W true))) (h10 : i + 10 ≤ s.size) (HEN : Hid (∀ W, Calls Tryz.prog 30 #[.string s, .int .i64 ((i : Int) + 10)] W (RetB W true))) (v q : Int) (hq : q = 0) (TX : ByteArray) (htx : s.extract i (i + 10) = TX) (HP : Hid (∀ W, Calls Tryz.prog 31 #[.string TX] W (NumQ W v q))) (HR : Hid (R = .yes ⟨4, bsL [], bsL [], v, 0⟩ 10)) :
    Calls Tryz.prog 13 #[.string s, .int .i64 (i : Int)] w (OnePost w i R) := by
  go_enter Tryz.func13, Tryz.ntmps13
  go_wp2_with fail
  refine (HL.out _).mono ?_
  rintro e w' ⟨rfl, rfl⟩
  obtain ⟨W2, hW2⟩ : ∃ W2, W2 = (w.alloc (.cells #[.int .u8 0, .string ⟨#[]⟩, .string ⟨#[]⟩, .int .i64 0, .int .i64 0] 40)).alloc (.cells #[.int .u8 0, .string ⟨#[]⟩, .string ⟨#[]⟩, .int .i64 0, .int .i64 (i : Int)] 40) := ⟨_, rfl⟩
  have hg : W2.heap[w.heap.size]? = some (.cells #[.int .u8 0, .string ⟨#[]⟩, .string ⟨#[]⟩, .int .i64 0, .int .i64 0] 40) := by rw [hW2]; exact two_first ..
  have ht : W2.heap[w.heap.size + 1]? = some (.cells #[.int .u8 0, .string ⟨#[]⟩, .string ⟨#[]⟩, .int .i64 0, .int .i64 (i : Int)] 40) := by rw [hW2]; exact two_next ..
  have hbel : Below w.heap.size w W2 := by rw [hW2]; exact (own_below w _).alloc (by simp) _
  rw [← hW2]
  obtain ⟨c0, c1, c2, c3, c4, fz⟩ := tcells hg
  obtain ⟨d0, d1, d2, d3, d4, fy⟩ := tcells ht
  have HG := Lib.hid hg
  have HT := Lib.hid ht
  have HBEL := Lib.hid hbel
  clear hW2 hg ht hbel
  subst hq
  have HTX := Lib.hid htx
  clear htx
  go_wp2_with fail
  refine (HDA.out _).mono ?_
  rintro e w' ⟨rfl, rfl⟩
  go_wp2_with fail
  refine (HEN.out _).mono ?_
  rintro e w' ⟨rfl, rfl⟩
  go_wp2_with fail
  rw [HTX.out]
  refine (HP.out _).mono ?_
  rintro e w3 ⟨rfl, hb3⟩
  have hg3 := (hb3.block _ (Array.getElem?_eq_some_iff.1 HG.out).1).trans HG.out
  have ht3 := (hb3.block _ (Array.getElem?_eq_some_iff.1 HT.out).1).trans HT.out
  have HG3 := Lib.hid hg3
  have HBE := Lib.hid (HBEL.out.trans (hb3.mono HBEL.out.size))
  clear c0 c1 c2 c3 c4 fz d0 d1 d2 d3 d4 fy hb3 HG HT HBEL
  have HG := HG3
  have HBEL := HBE
  clear HG3 HBE
  obtain ⟨c0, c1, c2, c3, c4, fz⟩ := tcells hg3
  obtain ⟨d0, d1, d2, d3, d4, fy⟩ := tcells ht3
  clear hg3 ht3
  go_wp2_with fail
  refine bodyPost_ret (results_row_tmp2 rfl _ _ w.heap.size 40 _ _ rfl (put5_heap (far1 (far1 HG.out _ _) _ _) _ _ _ _ _) Tryz.underlying40 rfl rfl) rfl ?_
  show OnePost _ _ _ _ _
  rw [HR.out]
  exact onePost_yes (by omega) (put5_below (below1 (below1 HBEL.out _ _) _ _) (Nat.le_refl _) _ _ _ _ _)
set_option maxHeartbeats 2000000 in
set_option maxRecDepth 100000 in
theorem rone_mark11 (s : ByteArray) (i : Nat) (w : World) (hs : s.size ≤ 20000) (hi : i < s.size) (R : OneR) (HL : Hid (∀ W, Calls Tryz.prog 26 #[.int .u8 (s[i].toNat : Int)] W (RetB W false))) (t34 : ((s[i].toNat : Int) == 34) = false) (HDA : Hid (∀ W, Calls Tryz.prog 29 #[.string s, .int .i64 (i : Int)] W (RetB W false))) (HDG : Hid (∀ W, Calls Tryz.prog 32 #[.int .u8 (s[i].toNat : Int)] W (RetB W false))) (t45 : ((s[i].toNat : Int) == 45) = true) (HDT : Hid (∀ W, Calls Tryz.prog 33 #[.string s, .int .i64 ((i : Int) + 1)] W (RetB W false))) (HMK : Hid (∀ W, Calls Tryz.prog 35 #[.int .u8 (s[i].toNat : Int)] W (RetB W true))) (TX : ByteArray) (htx : s.extract i (i + 1) = TX) (HR : Hid (R = .yes ⟨5, TX, bsL [], 0, 0⟩ 1)) :
    Calls Tryz.prog 13 #[.string s, .int .i64 (i : Int)] w (OnePost w i R) := by
  go_enter Tryz.func13, Tryz.ntmps13
  go_wp2_with fail
  refine (HL.out _).mono ?_
  rintro e w' ⟨rfl, rfl⟩
  obtain ⟨W2, hW2⟩ : ∃ W2, W2 = (w.alloc (.cells #[.int .u8 0, .string ⟨#[]⟩, .string ⟨#[]⟩, .int .i64 0, .int .i64 0] 40)).alloc (.cells #[.int .u8 0, .string ⟨#[]⟩, .string ⟨#[]⟩, .int .i64 0, .int .i64 (i : Int)] 40) := ⟨_, rfl⟩
  have hg : W2.heap[w.heap.size]? = some (.cells #[.int .u8 0, .string ⟨#[]⟩, .string ⟨#[]⟩, .int .i64 0, .int .i64 0] 40) := by rw [hW2]; exact two_first ..
  have ht : W2.heap[w.heap.size + 1]? = some (.cells #[.int .u8 0, .string ⟨#[]⟩, .string ⟨#[]⟩, .int .i64 0, .int .i64 (i : Int)] 40) := by rw [hW2]; exact two_next ..
  have hbel : Below w.heap.size w W2 := by rw [hW2]; exact (own_below w _).alloc (by simp) _
  rw [← hW2]
  obtain ⟨c0, c1, c2, c3, c4, fz⟩ := tcells hg
  obtain ⟨d0, d1, d2, d3, d4, fy⟩ := tcells ht
  have HG := Lib.hid hg
  have HT := Lib.hid ht
  have HBEL := Lib.hid hbel
  clear hW2 hg ht hbel
  go_wp2_with fail
  refine (HDA.out _).mono ?_
  rintro e w' ⟨rfl, rfl⟩
  go_wp2_with fail
  refine (HDG.out _).mono ?_
  rintro e w' ⟨rfl, rfl⟩
  go_wp2_with fail
  refine (HDT.out _).mono ?_
  rintro e w' ⟨rfl, rfl⟩
  go_wp2_with fail
  refine (HMK.out _).mono ?_
  rintro e w' ⟨rfl, rfl⟩
  go_wp2_with fail
  refine bodyPost_ret (results_row_tmp2 rfl _ _ w.heap.size 40 _ _ rfl (put5_heap (far1 (far1 HG.out _ _) _ _) _ _ _ _ _) Tryz.underlying40 rfl rfl) rfl ?_
  show OnePost _ _ _ _ _
  rw [HR.out]
  exact onePost_yes (by omega) (put5_below (below1 (below1 HBEL.out _ _) _ _) (Nat.le_refl _) _ _ _ _ _)
set_option maxHeartbeats 2000000 in
set_option maxRecDepth 100000 in
theorem rone_mark10 (s : ByteArray) (i : Nat) (w : World) (hs : s.size ≤ 20000) (hi : i < s.size) (R : OneR) (HL : Hid (∀ W, Calls Tryz.prog 26 #[.int .u8 (s[i].toNat : Int)] W (RetB W false))) (t34 : ((s[i].toNat : Int) == 34) = false) (HDA : Hid (∀ W, Calls Tryz.prog 29 #[.string s, .int .i64 (i : Int)] W (RetB W false))) (HDG : Hid (∀ W, Calls Tryz.prog 32 #[.int .u8 (s[i].toNat : Int)] W (RetB W false))) (t45 : ((s[i].toNat : Int) == 45) = false) (HMK : Hid (∀ W, Calls Tryz.prog 35 #[.int .u8 (s[i].toNat : Int)] W (RetB W true))) (TX : ByteArray) (htx : s.extract i (i + 1) = TX) (HR : Hid (R = .yes ⟨5, TX, bsL [], 0, 0⟩ 1)) :
    Calls Tryz.prog 13 #[.string s, .int .i64 (i : Int)] w (OnePost w i R) := by
  go_enter Tryz.func13, Tryz.ntmps13
  go_wp2_with fail
  refine (HL.out _).mono ?_
  rintro e w' ⟨rfl, rfl⟩
  obtain ⟨W2, hW2⟩ : ∃ W2, W2 = (w.alloc (.cells #[.int .u8 0, .string ⟨#[]⟩, .string ⟨#[]⟩, .int .i64 0, .int .i64 0] 40)).alloc (.cells #[.int .u8 0, .string ⟨#[]⟩, .string ⟨#[]⟩, .int .i64 0, .int .i64 (i : Int)] 40) := ⟨_, rfl⟩
  have hg : W2.heap[w.heap.size]? = some (.cells #[.int .u8 0, .string ⟨#[]⟩, .string ⟨#[]⟩, .int .i64 0, .int .i64 0] 40) := by rw [hW2]; exact two_first ..
  have ht : W2.heap[w.heap.size + 1]? = some (.cells #[.int .u8 0, .string ⟨#[]⟩, .string ⟨#[]⟩, .int .i64 0, .int .i64 (i : Int)] 40) := by rw [hW2]; exact two_next ..
  have hbel : Below w.heap.size w W2 := by rw [hW2]; exact (own_below w _).alloc (by simp) _
  rw [← hW2]
  obtain ⟨c0, c1, c2, c3, c4, fz⟩ := tcells hg
  obtain ⟨d0, d1, d2, d3, d4, fy⟩ := tcells ht
  have HG := Lib.hid hg
  have HT := Lib.hid ht
  have HBEL := Lib.hid hbel
  clear hW2 hg ht hbel
  go_wp2_with fail
  refine (HDA.out _).mono ?_
  rintro e w' ⟨rfl, rfl⟩
  go_wp2_with fail
  refine (HDG.out _).mono ?_
  rintro e w' ⟨rfl, rfl⟩
  go_wp2_with fail
  refine (HMK.out _).mono ?_
  rintro e w' ⟨rfl, rfl⟩
  go_wp2_with fail
  refine bodyPost_ret (results_row_tmp2 rfl _ _ w.heap.size 40 _ _ rfl (put5_heap (far1 (far1 HG.out _ _) _ _) _ _ _ _ _) Tryz.underlying40 rfl rfl) rfl ?_
  show OnePost _ _ _ _ _
  rw [HR.out]
  exact onePost_yes (by omega) (put5_below (below1 (below1 HBEL.out _ _) _ _) (Nat.le_refl _) _ _ _ _ _)
set_option maxHeartbeats 2000000 in
set_option maxRecDepth 100000 in
theorem rone_mark01 (s : ByteArray) (i : Nat) (w : World) (hs : s.size ≤ 20000) (hi : i < s.size) (R : OneR) (HL : Hid (∀ W, Calls Tryz.prog 26 #[.int .u8 (s[i].toNat : Int)] W (RetB W false))) (t34 : ((s[i].toNat : Int) == 34) = false) (HDA : Hid (∀ W, Calls Tryz.prog 29 #[.string s, .int .i64 (i : Int)] W (RetB W false))) (HDG : Hid (∀ W, Calls Tryz.prog 32 #[.int .u8 (s[i].toNat : Int)] W (RetB W false))) (t45 : ((s[i].toNat : Int) == 45) = true) (HDT : Hid (∀ W, Calls Tryz.prog 33 #[.string s, .int .i64 ((i : Int) + 1)] W (RetB W false))) (HMK : Hid (∀ W, Calls Tryz.prog 35 #[.int .u8 (s[i].toNat : Int)] W (RetB W false))) (HR : Hid (R = .no 12)) :
    Calls Tryz.prog 13 #[.string s, .int .i64 (i : Int)] w (OnePost w i R) := by
  go_enter Tryz.func13, Tryz.ntmps13
  go_wp2_with fail
  refine (HL.out _).mono ?_
  rintro e w' ⟨rfl, rfl⟩
  obtain ⟨W2, hW2⟩ : ∃ W2, W2 = (w.alloc (.cells #[.int .u8 0, .string ⟨#[]⟩, .string ⟨#[]⟩, .int .i64 0, .int .i64 0] 40)).alloc (.cells #[.int .u8 0, .string ⟨#[]⟩, .string ⟨#[]⟩, .int .i64 0, .int .i64 (i : Int)] 40) := ⟨_, rfl⟩
  have hg : W2.heap[w.heap.size]? = some (.cells #[.int .u8 0, .string ⟨#[]⟩, .string ⟨#[]⟩, .int .i64 0, .int .i64 0] 40) := by rw [hW2]; exact two_first ..
  have ht : W2.heap[w.heap.size + 1]? = some (.cells #[.int .u8 0, .string ⟨#[]⟩, .string ⟨#[]⟩, .int .i64 0, .int .i64 (i : Int)] 40) := by rw [hW2]; exact two_next ..
  have hbel : Below w.heap.size w W2 := by rw [hW2]; exact (own_below w _).alloc (by simp) _
  rw [← hW2]
  obtain ⟨c0, c1, c2, c3, c4, fz⟩ := tcells hg
  obtain ⟨d0, d1, d2, d3, d4, fy⟩ := tcells ht
  have HG := Lib.hid hg
  have HT := Lib.hid ht
  have HBEL := Lib.hid hbel
  clear hW2 hg ht hbel
  go_wp2_with fail
  refine (HDA.out _).mono ?_
  rintro e w' ⟨rfl, rfl⟩
  go_wp2_with fail
  refine (HDG.out _).mono ?_
  rintro e w' ⟨rfl, rfl⟩
  go_wp2_with fail
  refine (HDT.out _).mono ?_
  rintro e w' ⟨rfl, rfl⟩
  go_wp2_with fail
  refine (HMK.out _).mono ?_
  rintro e w' ⟨rfl, rfl⟩
  go_wp2_with fail
  refine bodyPost_ret (results_row_tmp2 rfl _ _ w.heap.size 40 _ _ rfl (put5_heap HG.out _ _ _ _ _) Tryz.underlying40 rfl rfl) rfl ?_
  show OnePost _ _ _ _ _
  rw [HR.out]
  exact onePost_no (put5_below HBEL.out (Nat.le_refl _) _ _ _ _ _)
set_option maxHeartbeats 2000000 in
set_option maxRecDepth 100000 in
theorem rone_mark00 (s : ByteArray) (i : Nat) (w : World) (hs : s.size ≤ 20000) (hi : i < s.size) (R : OneR) (HL : Hid (∀ W, Calls Tryz.prog 26 #[.int .u8 (s[i].toNat : Int)] W (RetB W false))) (t34 : ((s[i].toNat : Int) == 34) = false) (HDA : Hid (∀ W, Calls Tryz.prog 29 #[.string s, .int .i64 (i : Int)] W (RetB W false))) (HDG : Hid (∀ W, Calls Tryz.prog 32 #[.int .u8 (s[i].toNat : Int)] W (RetB W false))) (t45 : ((s[i].toNat : Int) == 45) = false) (HMK : Hid (∀ W, Calls Tryz.prog 35 #[.int .u8 (s[i].toNat : Int)] W (RetB W false))) (HR : Hid (R = .no 12)) :
    Calls Tryz.prog 13 #[.string s, .int .i64 (i : Int)] w (OnePost w i R) := by
  go_enter Tryz.func13, Tryz.ntmps13
  go_wp2_with fail
  refine (HL.out _).mono ?_
  rintro e w' ⟨rfl, rfl⟩
  obtain ⟨W2, hW2⟩ : ∃ W2, W2 = (w.alloc (.cells #[.int .u8 0, .string ⟨#[]⟩, .string ⟨#[]⟩, .int .i64 0, .int .i64 0] 40)).alloc (.cells #[.int .u8 0, .string ⟨#[]⟩, .string ⟨#[]⟩, .int .i64 0, .int .i64 (i : Int)] 40) := ⟨_, rfl⟩
  have hg : W2.heap[w.heap.size]? = some (.cells #[.int .u8 0, .string ⟨#[]⟩, .string ⟨#[]⟩, .int .i64 0, .int .i64 0] 40) := by rw [hW2]; exact two_first ..
  have ht : W2.heap[w.heap.size + 1]? = some (.cells #[.int .u8 0, .string ⟨#[]⟩, .string ⟨#[]⟩, .int .i64 0, .int .i64 (i : Int)] 40) := by rw [hW2]; exact two_next ..
  have hbel : Below w.heap.size w W2 := by rw [hW2]; exact (own_below w _).alloc (by simp) _
  rw [← hW2]
  obtain ⟨c0, c1, c2, c3, c4, fz⟩ := tcells hg
  obtain ⟨d0, d1, d2, d3, d4, fy⟩ := tcells ht
  have HG := Lib.hid hg
  have HT := Lib.hid ht
  have HBEL := Lib.hid hbel
  clear hW2 hg ht hbel
  go_wp2_with fail
  refine (HDA.out _).mono ?_
  rintro e w' ⟨rfl, rfl⟩
  go_wp2_with fail
  refine (HDG.out _).mono ?_
  rintro e w' ⟨rfl, rfl⟩
  go_wp2_with fail
  refine (HMK.out _).mono ?_
  rintro e w' ⟨rfl, rfl⟩
  go_wp2_with fail
  refine bodyPost_ret (results_row_tmp2 rfl _ _ w.heap.size 40 _ _ rfl (put5_heap HG.out _ _ _ _ _) Tryz.underlying40 rfl rfl) rfl ?_
  show OnePost _ _ _ _ _
  rw [HR.out]
  exact onePost_no (put5_below HBEL.out (Nat.le_refl _) _ _ _ _ _)

end Go.Proofs.YtnmiiimbjojcmaaGreatDoor
