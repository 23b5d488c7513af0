/-
  The reference's DivMod of integers by a positive divisor, by value. No condition. The reference's decimal text of a number: small, Of. Condition: at most 17 digits.
-/
import Derived.Test.YtnmiiimbjojcmaaGreatDoorYb
import Derived.Lib.ItoaNum
import Derived.Test.YtnmiiimbjojcmaaGreatDoorVf
import Derived.Test.YtnmiiimbjojcmaaGreatDoorVe
namespace Go.Proofs.YtnmiiimbjojcmaaGreatDoor
open Go.RowKit

theorem divmod_is {x y q r : Int} (hy : 0 < y) (h : r + y * q = x) (h1 : 0 ≤ r) (h2 : r < y) : x / y = q ∧ x % y = r := (Int.ediv_emod_unique hy).2 ⟨h, h1, h2⟩
theorem div_p {x y : Int} (hx : 0 ≤ x) (hy : 0 < y) : x / y = ((x.natAbs / y.natAbs : Nat) : Int) ∧ x % y = ((x.natAbs % y.natAbs : Nat) : Int) := by
  have e1 : (x.natAbs : Int) = x := by omega
  have e2 : (y.natAbs : Int) = y := by omega
  rw [Int.natCast_ediv, Int.natCast_emod, e1, e2]
  exact ⟨rfl, rfl⟩
theorem div_n0 {x y : Int} (hx : x < 0) (hy : 0 < y) (h : x.natAbs % y.natAbs = 0) : x / y = -((x.natAbs / y.natAbs : Nat) : Int) ∧ x % y = 0 := by
  have e := Nat.div_add_mod x.natAbs y.natAbs
  have e3 : ((y.natAbs * (x.natAbs / y.natAbs) : Nat) : Int) = y * ((x.natAbs / y.natAbs : Nat) : Int) := by
    rw [Int.natCast_mul, show (y.natAbs : Int) = y by omega]
  refine divmod_is hy ?_ (by omega) hy
  rw [Int.mul_neg, ← e3]; omega
theorem div_n1 {x y : Int} (hx : x < 0) (hy : 0 < y) (h : x.natAbs % y.natAbs ≠ 0) : x / y = -((x.natAbs / y.natAbs + 1 : Nat) : Int) ∧ x % y = ((y.natAbs - x.natAbs % y.natAbs : Nat) : Int) := by
  have e := Nat.div_add_mod x.natAbs y.natAbs
  have hl := Nat.mod_lt x.natAbs (show 0 < y.natAbs by omega)
  have e3 : ((y.natAbs * (x.natAbs / y.natAbs) : Nat) : Int) = y * ((x.natAbs / y.natAbs : Nat) : Int) := by
    rw [Int.natCast_mul, show (y.natAbs : Int) = y by omega]
  refine divmod_is hy ?_ (by omega) (by omega)
  rw [Int.mul_neg, Int.natCast_add, Int.mul_add, ← e3]; omega
/-- Quotient and rest are handed back. -/
def RQPost (w : World) (q r : Int) (e : Ending) (w' : World) : Prop := e = .returned (.tuple #[.string ⟨(txtZ q).toArray⟩, .string ⟨(txtZ r).toArray⟩, .int .i64 0]) ∧ Below w.heap.size w w'

set_option maxHeartbeats 2000000 in
set_option maxRecDepth 100000 in
theorem ridm_pos (s t : ByteArray) (x y : Int) (w : World) (hs : s.size ≤ 100000) (ht : t.size ≤ 100000) (hx : s.data.toList = txtZ x) (hy : t.data.toList = txtZ y) (bx : bigZ x = false) (byy : bigZ y = false) (hy0 : 0 < y) (hx0 : 0 ≤ x) :
    Calls Tryz.prog 96 #[.string s, .string t] w (RQPost w (x / y) (x % y)) := by
  have hb := rboth_any s t w (by omega) (by omega)
  rw [hx, hy, bothZ_ok bx byy] at hb
  have lx : (decN x.natAbs).length ≤ 1000 := by unfold bigZ at bx; simpa using bx
  have ly : (decN y.natAbs).length ≤ 1000 := by unfold bigZ at byy; simpa using byy
  have HB := Lib.hid hb
  have HDX := Lib.hid (fun W => digits_ok s x W (by omega) hx)
  have HDY := Lib.hid (fun W => digits_ok t y W (by omega) hy)
  clear hb hx hy bx byy
  have HYP : Hid (0 < y.natAbs) := (by omega : 0 < y.natAbs)
  have HY0 : Hid (decide (y.natAbs = 0) = false) := (by simp; omega : decide (y.natAbs = 0) = false)
  have hq := div_p hx0 hy0
  obtain ⟨Q, hQ⟩ : ∃ Q, Q = x / y := ⟨_, rfl⟩
  obtain ⟨R, hR⟩ : ∃ R, R = x % y := ⟨_, rfl⟩
  rw [← hQ, ← hR] at hq ⊢
  have HQR := Lib.hid hq
  unfold Hid DigOK at HDX HDY
  rw [show decide (x < 0) = false by simp; omega] at HDX
  rw [show decide (y < 0) = false by simp; omega] at HDY
  have HDX := Lib.hid HDX
  have HDY := Lib.hid HDY
  clear hq hQ hR hy0
  go_enter Tryz.func96, Tryz.ntmps96
  go_wp2_with fail
  refine HB.out.mono ?_
  rintro e w1 ⟨rfl, b1⟩
  have B1 := Lib.hid b1
  clear b1
  go_wp2_with fail
  refine (HDX.out _).mono ?_
  rintro e w2 ⟨a, n, c, rfl, l2, c2, n2, b2⟩
  have B2 := Lib.hid b2
  have L2 := Lib.hid l2
  have N2 := Lib.hid n2
  rw [l2] at lx
  clear l2 n2 b2
  go_wp2_with fail
  refine (HDY.out _).mono ?_
  rintro e w3 ⟨b, m, d, rfl, l3, c3, n3, b3⟩
  have B3 : Hid (Below w.heap.size w w3) := (B1.out.trans (B2.out.mono B1.out.size)).trans (b3.mono (by have := B1.out.size; have := B2.out.size; omega))
  have L3 := Lib.hid l3
  have N2b := Lib.hid (N2.out.below b3)
  have N3 := Lib.hid n3
  rw [l3] at ly
  have P2 : 0 < n := by rw [← L2.out]; exact List.length_pos_iff.2 (decN_ne _)
  have P3 : 0 < m := by rw [← L3.out]; exact List.length_pos_iff.2 (decN_ne _)
  clear l3 n3 b3 B1 B2 N2 HB HDX HDY
  have hz := zero_any b m d (decN y.natAbs) w3 L3.out (by omega) (decN_lt _) N3.out
  rw [dval_decN, HY0.out] at hz
  have HZ := Lib.hid hz
  have hdv := ddivide_any a b n m c d (decN x.natAbs) (decN y.natAbs) w3 L2.out L3.out (by omega) (by omega) c3 (decN_lt _) (decN_lt _) (by rw [dval_decN]; exact HYP.out) N2b.out N3.out
  rw [dval_decN, dval_decN] at hdv
  have HDV := Lib.hid hdv
  clear hz hdv
  go_wp2_with fail
  refine HZ.out.mono ?_
  rintro e w' ⟨rfl, rfl⟩
  go_wp2_with fail
  refine HDV.out.mono ?_
  rintro e w4 ⟨a1, c1, q, a2, c2', r, rfl, k1, k2, k3, k4, k5, k6, k7, k8, k9, k10, b4⟩
  have hBB := B3.out.size
  have B4 := Lib.hid (B3.out.trans (b4.mono hBB))
  have N3c := Lib.hid (N3.out.below b4)
  obtain ⟨K, hK⟩ : ∃ K, K = r.length := ⟨_, rfl⟩
  rw [← hK] at k2 k10 ⊢
  rw [L3.out] at k10
  have K3 := Lib.hid k3
  have K4 := Lib.hid k4
  have K5 := Lib.hid k5
  have K6 := Lib.hid k6
  have K7 := Lib.hid k7
  have K8 := Lib.hid k8
  have K9 := Lib.hid k9
  have KK := Lib.hid hK
  clear k3 k4 k5 k6 k7 k8 k9 b4 hK B3 N2b N3 HDV HZ hBB
  have htq := text_any a1 n c1 q false w4 K3.out (by omega) K6.out K4.out
  rw [K8.out, if_neg (by decide), ← HQR.out.1] at htq
  have HTQ := Lib.hid htq
  have HTR0 : Hid (∀ W, Below w4.heap.size w4 W → Calls Tryz.prog 112 #[.slice a2 K c2', .bool false] W (StrPost W (txtZ R))) := fun W hW => by
    have := text_any a2 K c2' r false W KK.out.symm (by omega) K7.out (K5.out.below hW)
    rwa [K9.out, if_neg (by decide), ← HQR.out.2] at this
  clear htq hx0
  go_wp2_with fail
  refine HTQ.out.mono ?_
  rintro e w8 ⟨rfl, b8⟩
  have B8 := Lib.hid (B4.out.trans (b8.mono B4.out.size))
  have HTR := Lib.hid (HTR0.out _ b8)
  clear b8
  go_wp2_with fail
  refine HTR.out.mono ?_
  rintro e w9 ⟨rfl, b9⟩
  have B9 := Lib.hid (B8.out.trans (b9.mono B8.out.size))
  clear b9
  go_wp2_with fail
  go_ret3
  exact ⟨rfl, B9.out⟩

set_option maxHeartbeats 2000000 in
set_option maxRecDepth 100000 in
theorem ridm_n0 (s t : ByteArray) (x y : Int) (w : World) (hs : s.size ≤ 100000) (ht : t.size ≤ 100000) (hx : s.data.toList = txtZ x) (hy : t.data.toList = txtZ y) (bx : bigZ x = false) (byy : bigZ y = false) (hy0 : 0 < y) (hx0 : x < 0) (hm0 : x.natAbs % y.natAbs = 0) :
    Calls Tryz.prog 96 #[.string s, .string t] w (RQPost w (x / y) (x % y)) := by
  have hb := rboth_any s t w (by omega) (by omega)
  rw [hx, hy, bothZ_ok bx byy] at hb
  have lx : (decN x.natAbs).length ≤ 1000 := by unfold bigZ at bx; simpa using bx
  have ly : (decN y.natAbs).length ≤ 1000 := by unfold bigZ at byy; simpa using byy
  have HB := Lib.hid hb
  have HDX := Lib.hid (fun W => digits_ok s x W (by omega) hx)
  have HDY := Lib.hid (fun W => digits_ok t y W (by omega) hy)
  clear hb hx hy bx byy
  have HYP : Hid (0 < y.natAbs) := (by omega : 0 < y.natAbs)
  have HY0 : Hid (decide (y.natAbs = 0) = false) := (by simp; omega : decide (y.natAbs = 0) = false)
  have hq := div_n0 hx0 hy0 hm0
  obtain ⟨Q, hQ⟩ : ∃ Q, Q = x / y := ⟨_, rfl⟩
  obtain ⟨R, hR⟩ : ∃ R, R = x % y := ⟨_, rfl⟩
  rw [← hQ, ← hR] at hq ⊢
  have HQR := Lib.hid hq
  unfold Hid DigOK at HDX HDY
  rw [show decide (x < 0) = true by simp; omega] at HDX
  rw [show decide (y < 0) = false by simp; omega] at HDY
  have HDX := Lib.hid HDX
  have HDY := Lib.hid HDY
  clear hq hQ hR hy0
  go_enter Tryz.func96, Tryz.ntmps96
  go_wp2_with fail
  refine HB.out.mono ?_
  rintro e w1 ⟨rfl, b1⟩
  have B1 := Lib.hid b1
  clear b1
  go_wp2_with fail
  refine (HDX.out _).mono ?_
  rintro e w2 ⟨a, n, c, rfl, l2, c2, n2, b2⟩
  have B2 := Lib.hid b2
  have L2 := Lib.hid l2
  have N2 := Lib.hid n2
  rw [l2] at lx
  clear l2 n2 b2
  go_wp2_with fail
  refine (HDY.out _).mono ?_
  rintro e w3 ⟨b, m, d, rfl, l3, c3, n3, b3⟩
  have B3 : Hid (Below w.heap.size w w3) := (B1.out.trans (B2.out.mono B1.out.size)).trans (b3.mono (by have := B1.out.size; have := B2.out.size; omega))
  have L3 := Lib.hid l3
  have N2b := Lib.hid (N2.out.below b3)
  have N3 := Lib.hid n3
  rw [l3] at ly
  have P2 : 0 < n := by rw [← L2.out]; exact List.length_pos_iff.2 (decN_ne _)
  have P3 : 0 < m := by rw [← L3.out]; exact List.length_pos_iff.2 (decN_ne _)
  clear l3 n3 b3 B1 B2 N2 HB HDX HDY
  have hz := zero_any b m d (decN y.natAbs) w3 L3.out (by omega) (decN_lt _) N3.out
  rw [dval_decN, HY0.out] at hz
  have HZ := Lib.hid hz
  have hdv := ddivide_any a b n m c d (decN x.natAbs) (decN y.natAbs) w3 L2.out L3.out (by omega) (by omega) c3 (decN_lt _) (decN_lt _) (by rw [dval_decN]; exact HYP.out) N2b.out N3.out
  rw [dval_decN, dval_decN] at hdv
  have HDV := Lib.hid hdv
  clear hz hdv
  go_wp2_with fail
  refine HZ.out.mono ?_
  rintro e w' ⟨rfl, rfl⟩
  go_wp2_with fail
  refine HDV.out.mono ?_
  rintro e w4 ⟨a1, c1, q, a2, c2', r, rfl, k1, k2, k3, k4, k5, k6, k7, k8, k9, k10, b4⟩
  have hBB := B3.out.size
  have B4 := Lib.hid (B3.out.trans (b4.mono hBB))
  have N3c := Lib.hid (N3.out.below b4)
  obtain ⟨K, hK⟩ : ∃ K, K = r.length := ⟨_, rfl⟩
  rw [← hK] at k2 k10 ⊢
  rw [L3.out] at k10
  have K3 := Lib.hid k3
  have K4 := Lib.hid k4
  have K5 := Lib.hid k5
  have K6 := Lib.hid k6
  have K7 := Lib.hid k7
  have K8 := Lib.hid k8
  have K9 := Lib.hid k9
  have KK := Lib.hid hK
  clear k3 k4 k5 k6 k7 k8 k9 b4 hK B3 N2b N3 HDV HZ hBB
  have hzr := zero_any a2 K c2' r w4 KK.out.symm (by omega) K7.out K5.out
  rw [K9.out, show decide (x.natAbs % y.natAbs = 0) = true from decide_eq_true hm0] at hzr
  have HZR := Lib.hid hzr
  have htq := text_any a1 n c1 q true w4 K3.out (by omega) K6.out K4.out
  rw [K8.out, if_pos rfl, ← HQR.out.1] at htq
  have HTQ := Lib.hid htq
  have HTR0 : Hid (∀ W, Below w4.heap.size w4 W → Calls Tryz.prog 112 #[.slice a2 K c2', .bool false] W (StrPost W (txtZ R))) := fun W hW => by
    have := text_any a2 K c2' r false W KK.out.symm (by omega) K7.out (K5.out.below hW)
    rw [K9.out, hm0, if_neg (by decide)] at this
    rw [HQR.out.2]; exact this
  clear htq hx0 hzr hm0
  go_wp2_with fail
  refine HZR.out.mono ?_
  rintro e w' ⟨rfl, rfl⟩
  go_wp2_with fail
  refine HTQ.out.mono ?_
  rintro e w8 ⟨rfl, b8⟩
  have B8 := Lib.hid (B4.out.trans (b8.mono B4.out.size))
  have HTR := Lib.hid (HTR0.out _ b8)
  clear b8
  go_wp2_with fail
  refine HTR.out.mono ?_
  rintro e w9 ⟨rfl, b9⟩
  have B9 := Lib.hid (B8.out.trans (b9.mono B8.out.size))
  clear b9
  go_wp2_with fail
  go_ret3
  exact ⟨rfl, B9.out⟩

set_option maxHeartbeats 2000000 in
set_option maxRecDepth 100000 in
theorem ridm_n1 (s t : ByteArray) (x y : Int) (w : World) (hs : s.size ≤ 100000) (ht : t.size ≤ 100000) (hx : s.data.toList = txtZ x) (hy : t.data.toList = txtZ y) (bx : bigZ x = false) (byy : bigZ y = false) (hy0 : 0 < y) (hx0 : x < 0) (hm0 : x.natAbs % y.natAbs ≠ 0) :
    Calls Tryz.prog 96 #[.string s, .string t] w (RQPost w (x / y) (x % y)) := by
  have hb := rboth_any s t w (by omega) (by omega)
  rw [hx, hy, bothZ_ok bx byy] at hb
  have lx : (decN x.natAbs).length ≤ 1000 := by unfold bigZ at bx; simpa using bx
  have ly : (decN y.natAbs).length ≤ 1000 := by unfold bigZ at byy; simpa using byy
  have HB := Lib.hid hb
  have HDX := Lib.hid (fun W => digits_ok s x W (by omega) hx)
  have HDY := Lib.hid (fun W => digits_ok t y W (by omega) hy)
  clear hb hx hy bx byy
  have HYP : Hid (0 < y.natAbs) := (by omega : 0 < y.natAbs)
  have HY0 : Hid (decide (y.natAbs = 0) = false) := (by simp; omega : decide (y.natAbs = 0) = false)
  have hq := div_n1 hx0 hy0 hm0
  obtain ⟨Q, hQ⟩ : ∃ Q, Q = x / y := ⟨_, rfl⟩
  obtain ⟨R, hR⟩ : ∃ R, R = x % y := ⟨_, rfl⟩
  rw [← hQ, ← hR] at hq ⊢
  have HQR := Lib.hid hq
  unfold Hid DigOK at HDX HDY
  rw [show decide (x < 0) = true by simp; omega] at HDX
  rw [show decide (y < 0) = false by simp; omega] at HDY
  have HDX := Lib.hid HDX
  have HDY := Lib.hid HDY
  clear hq hQ hR hy0
  go_enter Tryz.func96, Tryz.ntmps96
  go_wp2_with fail
  refine HB.out.mono ?_
  rintro e w1 ⟨rfl, b1⟩
  have B1 := Lib.hid b1
  clear b1
  go_wp2_with fail
  refine (HDX.out _).mono ?_
  rintro e w2 ⟨a, n, c, rfl, l2, c2, n2, b2⟩
  have B2 := Lib.hid b2
  have L2 := Lib.hid l2
  have N2 := Lib.hid n2
  rw [l2] at lx
  clear l2 n2 b2
  go_wp2_with fail
  refine (HDY.out _).mono ?_
  rintro e w3 ⟨b, m, d, rfl, l3, c3, n3, b3⟩
  have B3 : Hid (Below w.heap.size w w3) := (B1.out.trans (B2.out.mono B1.out.size)).trans (b3.mono (by have := B1.out.size; have := B2.out.size; omega))
  have L3 := Lib.hid l3
  have N2b := Lib.hid (N2.out.below b3)
  have N3 := Lib.hid n3
  rw [l3] at ly
  have P2 : 0 < n := by rw [← L2.out]; exact List.length_pos_iff.2 (decN_ne _)
  have P3 : 0 < m := by rw [← L3.out]; exact List.length_pos_iff.2 (decN_ne _)
  clear l3 n3 b3 B1 B2 N2 HB HDX HDY
  have hz := zero_any b m d (decN y.natAbs) w3 L3.out (by omega) (decN_lt _) N3.out
  rw [dval_decN, HY0.out] at hz
  have HZ := Lib.hid hz
  have hdv := ddivide_any a b n m c d (decN x.natAbs) (decN y.natAbs) w3 L2.out L3.out (by omega) (by omega) c3 (decN_lt _) (decN_lt _) (by rw [dval_decN]; exact HYP.out) N2b.out N3.out
  rw [dval_decN, dval_decN] at hdv
  have HDV := Lib.hid hdv
  clear hz hdv
  go_wp2_with fail
  refine HZ.out.mono ?_
  rintro e w' ⟨rfl, rfl⟩
  go_wp2_with fail
  refine HDV.out.mono ?_
  rintro e w4 ⟨a1, c1, q, a2, c2', r, rfl, k1, k2, k3, k4, k5, k6, k7, k8, k9, k10, b4⟩
  have hBB := B3.out.size
  have B4 := Lib.hid (B3.out.trans (b4.mono hBB))
  have N3c := Lib.hid (N3.out.below b4)
  obtain ⟨K, hK⟩ : ∃ K, K = r.length := ⟨_, rfl⟩
  rw [← hK] at k2 k10 ⊢
  rw [L3.out] at k10
  have K3 := Lib.hid k3
  have K4 := Lib.hid k4
  have K5 := Lib.hid k5
  have K6 := Lib.hid k6
  have K7 := Lib.hid k7
  have K8 := Lib.hid k8
  have K9 := Lib.hid k9
  have KK := Lib.hid hK
  clear k3 k4 k5 k6 k7 k8 k9 b4 hK B3 N2b N3 HDV HZ hBB
  have hzr := zero_any a2 K c2' r w4 KK.out.symm (by omega) K7.out K5.out
  rw [K9.out, show decide (x.natAbs % y.natAbs = 0) = false from decide_eq_false hm0] at hzr
  have HZR := Lib.hid hzr
  have HLT : Hid (x.natAbs % y.natAbs < y.natAbs) := Nat.mod_lt _ HYP.out
  have hlit : (w4.alloc (.cells #[.int .i64 1] 3)).ownsRow w4.heap.size 3 1 (.slice (some ⟨w4.heap.size, 0, none⟩) 1 1) 1 (nums .i64 [1]) :=
    World.ownsRow_lit w4 #[.int .i64 1] 1 (Nat.le_refl _) (by unfold maxLen; omega) (by simp)
  have HN1 : Hid (Nums .i64 (w4.alloc (.cells #[.int .i64 1] 3)) (some ⟨w4.heap.size, 0, none⟩) [1]) := by
    obtain ⟨a', c', e1, _, _, h⟩ := nums_of_owns hlit
    injection e1 with e1 e2 e3
    rw [← e1] at h; exact h
  have hba : Below w4.heap.size w4 (w4.alloc (.cells #[.int .i64 1] 3)) := (Below.refl _ _).alloc (Nat.le_refl _) _
  have hpl := dplus_any a1 (some ⟨w4.heap.size, 0, none⟩) n 1 c1 1 q [1] (w4.alloc (.cells #[.int .i64 1] 3)) K3.out rfl (by omega) (by omega) K6.out (by simp) (K4.out.below hba) HN1.out
  have HPL := Lib.hid hpl
  have HBA := Lib.hid hba
  clear hzr hlit hpl hba hm0 hx0 HN1
  go_wp2_with fail
  refine HZR.out.mono ?_
  rintro e w' ⟨rfl, rfl⟩
  go_wp2_with fail
  refine HPL.out.mono ?_
  rintro e w5 ⟨v, l, rfl, ho, ⟨h1, h2, h3⟩, b5⟩
  have hb5 : Below w4.heap.size w4 w5 := HBA.out.trans (b5.mono HBA.out.size)
  have B5 : Hid (Below w.heap.size w w5) := B4.out.trans (hb5.mono B4.out.size)
  have HB45 := Lib.hid hb5
  obtain ⟨a5, c5, rfl, hl5, hc5, h5⟩ := nums_of_owns ho
  obtain ⟨K1, hK1⟩ : ∃ K1, K1 = l.length := ⟨_, rfl⟩
  rw [← hK1] at h1 hl5 hc5 ⊢
  have H2 := Lib.hid h2
  have h3' : dval l = x.natAbs / y.natAbs + 1 := by
    have e : dval l = dval q + dval [1] := h3
    rw [e, K8.out]; rfl
  have H3 := Lib.hid h3'
  have H5 := Lib.hid h5
  have HK1 := Lib.hid hK1
  have hmi := dminus_any b a2 m K d c2' (decN y.natAbs) r w5 L3.out KK.out.symm (by omega) (by omega) (decN_lt _) K7.out (by rw [dval_decN, K9.out]; have := HLT.out; omega) (N3c.out.below hb5) (K5.out.below hb5)
  rw [dval_decN, K9.out] at hmi
  have HMI := Lib.hid hmi
  have hb1 : K1 ≤ 5000 := by omega
  clear h1 h2 h3 h3' h5 ho b5 hb5 hmi hl5 hK1
  go_wp2_with fail
  refine HMI.out.mono ?_
  rintro e w6 ⟨v, l2, rfl, ho, ⟨j1, j2, j3⟩, b6⟩
  have B6 : Hid (Below w.heap.size w w6) := B5.out.trans (b6.mono B5.out.size)
  obtain ⟨a6, c6, rfl, hl6, hc6, h6⟩ := nums_of_owns ho
  obtain ⟨K2, hK2⟩ : ∃ K2, K2 = l2.length := ⟨_, rfl⟩
  rw [← hK2] at j1 hl6 hc6 ⊢
  have J2 := Lib.hid j2
  have J3 := Lib.hid j3
  have H6 := Lib.hid h6
  have HK2 := Lib.hid hK2
  have htq := text_any a5 K1 c5 l true w6 HK1.out.symm (by omega) H2.out (H5.out.below b6)
  rw [H3.out, if_pos rfl, ← HQR.out.1] at htq
  have HTQ := Lib.hid htq
  have HTR0 : Hid (∀ W, Below w6.heap.size w6 W → Calls Tryz.prog 112 #[.slice a6 K2 c6, .bool false] W (StrPost W (txtZ R))) := fun W hW => by
    have := text_any a6 K2 c6 l2 false W HK2.out.symm (by omega) J2.out (H6.out.below hW)
    rwa [J3.out, if_neg (by decide), ← HQR.out.2] at this
  clear htq j1 j2 j3 h6 ho b6 hl6 hK2 hb1 hc5 hc6
  go_wp2_with fail
  refine HTQ.out.mono ?_
  rintro e w8 ⟨rfl, b8⟩
  have B8 := Lib.hid (B6.out.trans (b8.mono B6.out.size))
  have HTR := Lib.hid (HTR0.out _ b8)
  clear b8
  go_wp2_with fail
  refine HTR.out.mono ?_
  rintro e w9 ⟨rfl, b9⟩
  have B9 := Lib.hid (B8.out.trans (b9.mono B8.out.size))
  clear b9
  go_wp2_with fail
  go_ret3
  exact ⟨rfl, B9.out⟩

theorem ridm_ok (s t : ByteArray) (x y : Int) (w : World) (hs : s.size ≤ 100000) (ht : t.size ≤ 100000) (hx : s.data.toList = txtZ x) (hy : t.data.toList = txtZ y) (bx : bigZ x = false) (byy : bigZ y = false) (hy0 : 0 < y) :
    Calls Tryz.prog 96 #[.string s, .string t] w (RQPost w (x / y) (x % y)) := by
  by_cases h : x < 0
  · by_cases h0 : x.natAbs % y.natAbs = 0
    · exact ridm_n0 s t x y w hs ht hx hy bx byy hy0 h h0
    · exact ridm_n1 s t x y w hs ht hx hy bx byy hy0 h h0
  · exact ridm_pos s t x y w hs ht hx hy bx byy hy0 (by omega)

end Go.Proofs.YtnmiiimbjojcmaaGreatDoor

namespace Go.Proofs.YtnmiiimbjojcmaaGreatDoor
open Go.RowKit

theorem txtN_dec (n : Nat) : txtN n = Lib.decDigits n := by
  induction n using Nat.strongRecOn with
  | _ n ih =>
    rw [Lib.decDigits]
    split
    · rename_i h
      unfold txtN decN
      split
      · rename_i h0; subst h0; rfl
      · rename_i h0
        rw [decL_pos h0, show n / 10 = 0 by omega, decL_zero, show n % 10 = n by omega]; rfl
    · rename_i h
      rw [← ih (n / 10) (by omega)]
      unfold txtN decN
      rw [if_neg (by omega), if_neg (by omega), decL_pos (by omega : n ≠ 0)]
      simp [dgB]
theorem ints_row (l : List Nat) : ∀ j, j < l.length → (l.map fun x : Nat => Value.int .i64 (x : Int))[j]? = some (.int .i64 ((l.getD j 0 : Nat) : Int)) := fun j hj => by
  rw [List.getElem?_map, List.getElem?_eq_getElem hj, List.getD_eq_getElem?_getD, List.getElem?_eq_getElem hj]; rfl
/-- Numbers that a call owns, read. -/
theorem nums_own {w : World} {B : Nat} {v : Value} {l : List Nat} (h : w.ownsRow B 3 1 v l.length (l.map fun x : Nat => Value.int .i64 (x : Int))) : ∃ a c, v = .slice a l.length c ∧ Nums .i64 w a l := by
  rcases rowAt_of_owns h with ⟨rfl, hz, _⟩ | ⟨g, c, rfl, _, hc, _, _, hr⟩
  · have : l = [] := List.eq_nil_of_length_eq_zero hz
    subst this
    exact ⟨none, 0, rfl, Nums.nil _ _ _⟩
  · exact ⟨_, c, rfl, fun i hi => ⟨g, 0, rfl, hr.lt, by rw [Nat.zero_add, hr.cell (by simpa using hi), ints_row l i hi]⟩⟩
/-- The loop: the digits so far, what is left. -/
def SmR (w : World) (N : Nat) (nv dv : Value) (wr : World) : Prop :=
  ∃ (L : List Nat) (m : Nat), nv = .int .i64 (m : Int) ∧ wr.ownsRow w.heap.size 3 1 dv L.length (L.map fun x : Nat => Value.int .i64 (x : Int)) ∧ Below w.heap.size w wr ∧ (∀ x ∈ L, x < 10) ∧ dval L + 10 ^ L.length * m = N ∧ L.length ≤ 17

end Go.Proofs.YtnmiiimbjojcmaaGreatDoor
