/-
  The reference's Round of rationals, walked. No condition.
-/
import Derived.Test.YtnikhbdjlipcbaaDoorWm
namespace Go.Proofs.YtnikhbdjlipcbaaDoor
open Go.RowKit Go.Shelf

/-- Digits as they are, with their value. -/
def DgsP (w : World) (V : Nat) (e : Ending) (w' : World) : Prop :=
  ∃ a n c L, e = .returned (.slice a n c) ∧ (L : List Nat).length = n ∧ n ≤ 5000 ∧ Nums .i64 w' a L ∧ (∀ x ∈ L, x < 10) ∧ dval L = V ∧ Below w.heap.size w w'
theorem dgsP_ok (s : ByteArray) (z : Int) (w : World) (hs : s.size ≤ 5000) (h : s.data.toList = txtZ z) : Calls Tryd.prog 67 #[.string s] w (DgsP w z.natAbs) :=
  (rdigits2_ok s z w (by omega) h).mono fun e w' ⟨a, n, c, e1, e2, _, e4, e5⟩ => ⟨a, n, c, _, e1, e2, by
    have h1 : (txtZ z).length ≤ 5000 := by rw [← h, data_len]; exact hs
    unfold txtZ at h1
    split at h1
    · rw [List.length_cons, txtN_len] at h1; omega
    · rw [txtN_len] at h1; omega, e4, decN_lt _, dval_decN _, e5⟩

set_option maxHeartbeats 2000000 in
set_option maxRecDepth 100000 in
theorem rround_zero (a N D F R : ByteArray) (w : World) (HC : Hid (∀ W, Calls Tryd.prog 25 #[.string a] W (ErrPost W 0)))
    (HW : Hid (∀ W, Calls Tryd.prog 57 #[.string a] W (WrPost W N D)))
    (HQ : Hid (∀ W, Calls Tryd.prog 65 #[.string N, .string D] W fun e w' => e = .returned (.tuple #[.string F, .string R, .int .i64 0]) ∧ Below W.heap.size W w')) (k : Nat) (hk : decide ((4 : Int) < (k : Int)) = false) (t0 : (R.toList == [48]) = true) : Calls Tryd.prog 29 #[.string a, .int .u8 (k : Int)] w (StE w F 0) := by
  go_enter Tryd.func29, Tryd.ntmps29
  go_wp2_with fail
  refine (HC.out _).mono ?_
  rintro e w1 ⟨rfl, b1⟩
  have B1 := Lib.hid (b1)
  clear b1
  go_wp2_with fail
  refine (HW.out _).mono ?_
  rintro e w2 ⟨rfl, b2⟩
  have B2 := Lib.hid (B1.out.trans (b2.mono B1.out.size))
  clear b2
  go_wp2_with fail
  refine (HQ.out _).mono ?_
  rintro e w3 ⟨rfl, b3⟩
  have B3 := Lib.hid (B2.out.trans (b3.mono B2.out.size))
  clear b3
  go_wp2_with fail
  go_ret2
  exact ⟨rfl, B3.out⟩

set_option maxHeartbeats 2000000 in
set_option maxRecDepth 100000 in
theorem rround_floor (a N D F R : ByteArray) (w : World) (HC : Hid (∀ W, Calls Tryd.prog 25 #[.string a] W (ErrPost W 0)))
    (HW : Hid (∀ W, Calls Tryd.prog 57 #[.string a] W (WrPost W N D)))
    (HQ : Hid (∀ W, Calls Tryd.prog 65 #[.string N, .string D] W fun e w' => e = .returned (.tuple #[.string F, .string R, .int .i64 0]) ∧ Below W.heap.size W w')) (t0 : (R.toList == [48]) = false) : Calls Tryd.prog 29 #[.string a, .int .u8 4] w (StE w F 0) := by
  go_enter Tryd.func29, Tryd.ntmps29
  go_wp2_with fail
  refine (HC.out _).mono ?_
  rintro e w1 ⟨rfl, b1⟩
  have B1 := Lib.hid (b1)
  clear b1
  go_wp2_with fail
  refine (HW.out _).mono ?_
  rintro e w2 ⟨rfl, b2⟩
  have B2 := Lib.hid (B1.out.trans (b2.mono B1.out.size))
  clear b2
  go_wp2_with fail
  refine (HQ.out _).mono ?_
  rintro e w3 ⟨rfl, b3⟩
  have B3 := Lib.hid (B2.out.trans (b3.mono B2.out.size))
  clear b3
  go_wp2_with fail
  go_ret2
  exact ⟨rfl, B3.out⟩

set_option maxHeartbeats 2000000 in
set_option maxRecDepth 100000 in
theorem dgsP_nil (w : World) : Calls Tryd.prog 67 #[.string ⟨#[]⟩] w (DgsP w 0) := by
  have H := Lib.hid (digits_any ⟨#[]⟩ w (Nat.zero_le _))
  go_enter Tryd.func67, Tryd.ntmps67
  go_wp2_with fail
  refine H.out.mono ?_
  have e0 : rdZ (⟨#[]⟩ : ByteArray).data.toList = none := by decide
  rintro e w1 (⟨z, a, n, c, h, _⟩ | ⟨_, rfl, b1⟩)
  · rw [e0] at h; cases h
  clear e0
  have B1 := Lib.hid b1
  clear b1
  go_wp2_with fail
  go_ret
  exact ⟨none, 0, 0, [], rfl, rfl, by omega, fun i hi => absurd hi (Nat.not_lt_zero _), fun x hx => absurd hx List.not_mem_nil, rfl, B1.out⟩
set_option maxHeartbeats 2000000 in
set_option maxRecDepth 100000 in
theorem rround_0n (a N D F R : ByteArray) (w : World) (HC : Hid (∀ W, Calls Tryd.prog 25 #[.string a] W (ErrPost W 0)))
    (HW : Hid (∀ W, Calls Tryd.prog 57 #[.string a] W (WrPost W N D)))
    (HQ : Hid (∀ W, Calls Tryd.prog 65 #[.string N, .string D] W fun e w' => e = .returned (.tuple #[.string F, .string R, .int .i64 0]) ∧ Below W.heap.size W w')) (t0 : (R.toList == [48]) = false) (T : ByteArray) (tf : Int) (v1 v2 : Nat) (C : Int) (HT : Hid (∀ W, Calls Tryd.prog 62 #[.string ⟨#[50]⟩, .string R] W (StE W T tf))) (HD1 : Hid (∀ W, Calls Tryd.prog 67 #[.string T] W (DgsP W v1))) (HD2 : Hid (∀ W, Calls Tryd.prog 67 #[.string D] W (DgsP W v2))) (hC : C = cmpN v1 v2) (t3 : T.toList.isEmpty = false)  (h0 : 0 < N.size) (t45 : ((N[0].toNat : Int) == 45) = true) (X : ByteArray) (xf : Int) (HA : Hid (∀ W, Calls Tryd.prog 68 #[.string F, .string ⟨#[49]⟩] W (StE W X xf))) : Calls Tryd.prog 29 #[.string a, .int .u8 0] w (StE w X xf) := by
  have HCC := Lib.hid hC
  clear hC
  go_enter Tryd.func29, Tryd.ntmps29
  go_wp2_with fail
  refine (HC.out _).mono ?_
  rintro e w1 ⟨rfl, b1⟩
  have B1 := Lib.hid (b1)
  clear b1
  go_wp2_with fail
  refine (HW.out _).mono ?_
  rintro e w2 ⟨rfl, b2⟩
  have B2 := Lib.hid (B1.out.trans (b2.mono B1.out.size))
  clear b2
  go_wp2_with fail
  refine (HQ.out _).mono ?_
  rintro e w3 ⟨rfl, b3⟩
  have B3 := Lib.hid (B2.out.trans (b3.mono B2.out.size))
  clear b3
  go_wp2_with fail
  refine (HT.out _).mono ?_
  rintro e w4 ⟨rfl, b4⟩
  have B4 := Lib.hid (B3.out.trans (b4.mono B3.out.size))
  clear b4
  go_wp2_with fail
  refine (HD1.out _).mono ?_
  rintro e w5 ⟨a1, n1, c1, l1, rfl, k1, k2, k3, k4, k5, b5⟩
  have B5 := Lib.hid (B4.out.trans (b5.mono B4.out.size))
  have K1 := Lib.hid k1
  have K3 := Lib.hid k3
  have K4 := Lib.hid k4
  have K5 := Lib.hid k5
  clear k1 k3 k4 k5 b5
  go_wp2_with fail
  refine (HD2.out _).mono ?_
  rintro e w6 ⟨a2, n2, c2, l2, rfl, j1, j2, j3, j4, j5, b6⟩
  have B6 := Lib.hid (B5.out.trans (b6.mono B5.out.size))
  have hg := greater_any a1 a2 n1 n2 c1 c2 l1 l2 w6 K1.out j1 (by omega) (by omega) K4.out j4 (K3.out.below b6) j3
  rw [K5.out, j5, ← HCC.out] at hg
  have HG := Lib.hid hg
  clear hg j1 j3 j4 j5 b6
  go_wp2_with fail
  refine HG.out.mono ?_
  rintro e w' ⟨rfl, rfl⟩
  go_wp2_with fail
  refine (HA.out _).mono ?_
  rintro e w8 ⟨rfl, b8⟩
  have B8 := Lib.hid (B6.out.trans (b8.mono B6.out.size))
  clear b8
  go_wp2_with fail
  go_ret2
  exact ⟨rfl, B8.out⟩

set_option maxHeartbeats 2000000 in
set_option maxRecDepth 100000 in
theorem rround_0ne (a N D F R : ByteArray) (w : World) (HC : Hid (∀ W, Calls Tryd.prog 25 #[.string a] W (ErrPost W 0)))
    (HW : Hid (∀ W, Calls Tryd.prog 57 #[.string a] W (WrPost W N D)))
    (HQ : Hid (∀ W, Calls Tryd.prog 65 #[.string N, .string D] W fun e w' => e = .returned (.tuple #[.string F, .string R, .int .i64 0]) ∧ Below W.heap.size W w')) (t0 : (R.toList == [48]) = false) (T : ByteArray) (tf : Int) (v1 v2 : Nat) (C : Int) (HT : Hid (∀ W, Calls Tryd.prog 62 #[.string ⟨#[50]⟩, .string R] W (StE W T tf))) (HD1 : Hid (∀ W, Calls Tryd.prog 67 #[.string T] W (DgsP W v1))) (HD2 : Hid (∀ W, Calls Tryd.prog 67 #[.string D] W (DgsP W v2))) (hC : C = cmpN v1 v2) (t3 : T.toList.isEmpty = true)  (h0 : 0 < N.size) (t45 : ((N[0].toNat : Int) == 45) = true) (X : ByteArray) (xf : Int) (HA : Hid (∀ W, Calls Tryd.prog 68 #[.string F, .string ⟨#[49]⟩] W (StE W X xf))) : Calls Tryd.prog 29 #[.string a, .int .u8 0] w (StE w X xf) := by
  have HCC := Lib.hid hC
  clear hC
  go_enter Tryd.func29, Tryd.ntmps29
  go_wp2_with fail
  refine (HC.out _).mono ?_
  rintro e w1 ⟨rfl, b1⟩
  have B1 := Lib.hid (b1)
  clear b1
  go_wp2_with fail
  refine (HW.out _).mono ?_
  rintro e w2 ⟨rfl, b2⟩
  have B2 := Lib.hid (B1.out.trans (b2.mono B1.out.size))
  clear b2
  go_wp2_with fail
  refine (HQ.out _).mono ?_
  rintro e w3 ⟨rfl, b3⟩
  have B3 := Lib.hid (B2.out.trans (b3.mono B2.out.size))
  clear b3
  go_wp2_with fail
  refine (HT.out _).mono ?_
  rintro e w4 ⟨rfl, b4⟩
  have B4 := Lib.hid (B3.out.trans (b4.mono B3.out.size))
  clear b4
  go_wp2_with fail
  refine (HD1.out _).mono ?_
  rintro e w5 ⟨a1, n1, c1, l1, rfl, k1, k2, k3, k4, k5, b5⟩
  have B5 := Lib.hid (B4.out.trans (b5.mono B4.out.size))
  have K1 := Lib.hid k1
  have K3 := Lib.hid k3
  have K4 := Lib.hid k4
  have K5 := Lib.hid k5
  clear k1 k3 k4 k5 b5
  go_wp2_with fail
  refine (HD2.out _).mono ?_
  rintro e w6 ⟨a2, n2, c2, l2, rfl, j1, j2, j3, j4, j5, b6⟩
  have B6 := Lib.hid (B5.out.trans (b6.mono B5.out.size))
  have hg := greater_any a1 a2 n1 n2 c1 c2 l1 l2 w6 K1.out j1 (by omega) (by omega) K4.out j4 (K3.out.below b6) j3
  rw [K5.out, j5, ← HCC.out] at hg
  have HG := Lib.hid hg
  clear hg j1 j3 j4 j5 b6
  go_wp2_with fail
  refine HG.out.mono ?_
  rintro e w' ⟨rfl, rfl⟩
  go_wp2_with fail
  refine (HA.out _).mono ?_
  rintro e w8 ⟨rfl, b8⟩
  have B8 := Lib.hid (B6.out.trans (b8.mono B6.out.size))
  clear b8
  go_wp2_with fail
  go_ret2
  exact ⟨rfl, B8.out⟩

set_option maxHeartbeats 2000000 in
set_option maxRecDepth 100000 in
theorem rround_0p (a N D F R : ByteArray) (w : World) (HC : Hid (∀ W, Calls Tryd.prog 25 #[.string a] W (ErrPost W 0)))
    (HW : Hid (∀ W, Calls Tryd.prog 57 #[.string a] W (WrPost W N D)))
    (HQ : Hid (∀ W, Calls Tryd.prog 65 #[.string N, .string D] W fun e w' => e = .returned (.tuple #[.string F, .string R, .int .i64 0]) ∧ Below W.heap.size W w')) (t0 : (R.toList == [48]) = false) (T : ByteArray) (tf : Int) (v1 v2 : Nat) (C : Int) (HT : Hid (∀ W, Calls Tryd.prog 62 #[.string ⟨#[50]⟩, .string R] W (StE W T tf))) (HD1 : Hid (∀ W, Calls Tryd.prog 67 #[.string T] W (DgsP W v1))) (HD2 : Hid (∀ W, Calls Tryd.prog 67 #[.string D] W (DgsP W v2))) (hC : C = cmpN v1 v2) (t3 : T.toList.isEmpty = false)  (h0 : 0 < N.size) (t45 : ((N[0].toNat : Int) == 45) = false) : Calls Tryd.prog 29 #[.string a, .int .u8 0] w (StE w F 0) := by
  have HCC := Lib.hid hC
  clear hC
  go_enter Tryd.func29, Tryd.ntmps29
  go_wp2_with fail
  refine (HC.out _).mono ?_
  rintro e w1 ⟨rfl, b1⟩
  have B1 := Lib.hid (b1)
  clear b1
  go_wp2_with fail
  refine (HW.out _).mono ?_
  rintro e w2 ⟨rfl, b2⟩
  have B2 := Lib.hid (B1.out.trans (b2.mono B1.out.size))
  clear b2
  go_wp2_with fail
  refine (HQ.out _).mono ?_
  rintro e w3 ⟨rfl, b3⟩
  have B3 := Lib.hid (B2.out.trans (b3.mono B2.out.size))
  clear b3
  go_wp2_with fail
  refine (HT.out _).mono ?_
  rintro e w4 ⟨rfl, b4⟩
  have B4 := Lib.hid (B3.out.trans (b4.mono B3.out.size))
  clear b4
  go_wp2_with fail
  refine (HD1.out _).mono ?_
  rintro e w5 ⟨a1, n1, c1, l1, rfl, k1, k2, k3, k4, k5, b5⟩
  have B5 := Lib.hid (B4.out.trans (b5.mono B4.out.size))
  have K1 := Lib.hid k1
  have K3 := Lib.hid k3
  have K4 := Lib.hid k4
  have K5 := Lib.hid k5
  clear k1 k3 k4 k5 b5
  go_wp2_with fail
  refine (HD2.out _).mono ?_
  rintro e w6 ⟨a2, n2, c2, l2, rfl, j1, j2, j3, j4, j5, b6⟩
  have B6 := Lib.hid (B5.out.trans (b6.mono B5.out.size))
  have hg := greater_any a1 a2 n1 n2 c1 c2 l1 l2 w6 K1.out j1 (by omega) (by omega) K4.out j4 (K3.out.below b6) j3
  rw [K5.out, j5, ← HCC.out] at hg
  have HG := Lib.hid hg
  clear hg j1 j3 j4 j5 b6
  go_wp2_with fail
  refine HG.out.mono ?_
  rintro e w' ⟨rfl, rfl⟩
  go_wp2_with fail
  go_ret2
  exact ⟨rfl, B6.out⟩

set_option maxHeartbeats 2000000 in
set_option maxRecDepth 100000 in
theorem rround_0pe (a N D F R : ByteArray) (w : World) (HC : Hid (∀ W, Calls Tryd.prog 25 #[.string a] W (ErrPost W 0)))
    (HW : Hid (∀ W, Calls Tryd.prog 57 #[.string a] W (WrPost W N D)))
    (HQ : Hid (∀ W, Calls Tryd.prog 65 #[.string N, .string D] W fun e w' => e = .returned (.tuple #[.string F, .string R, .int .i64 0]) ∧ Below W.heap.size W w')) (t0 : (R.toList == [48]) = false) (T : ByteArray) (tf : Int) (v1 v2 : Nat) (C : Int) (HT : Hid (∀ W, Calls Tryd.prog 62 #[.string ⟨#[50]⟩, .string R] W (StE W T tf))) (HD1 : Hid (∀ W, Calls Tryd.prog 67 #[.string T] W (DgsP W v1))) (HD2 : Hid (∀ W, Calls Tryd.prog 67 #[.string D] W (DgsP W v2))) (hC : C = cmpN v1 v2) (t3 : T.toList.isEmpty = true)  (h0 : 0 < N.size) (t45 : ((N[0].toNat : Int) == 45) = false) : Calls Tryd.prog 29 #[.string a, .int .u8 0] w (StE w F 0) := by
  have HCC := Lib.hid hC
  clear hC
  go_enter Tryd.func29, Tryd.ntmps29
  go_wp2_with fail
  refine (HC.out _).mono ?_
  rintro e w1 ⟨rfl, b1⟩
  have B1 := Lib.hid (b1)
  clear b1
  go_wp2_with fail
  refine (HW.out _).mono ?_
  rintro e w2 ⟨rfl, b2⟩
  have B2 := Lib.hid (B1.out.trans (b2.mono B1.out.size))
  clear b2
  go_wp2_with fail
  refine (HQ.out _).mono ?_
  rintro e w3 ⟨rfl, b3⟩
  have B3 := Lib.hid (B2.out.trans (b3.mono B2.out.size))
  clear b3
  go_wp2_with fail
  refine (HT.out _).mono ?_
  rintro e w4 ⟨rfl, b4⟩
  have B4 := Lib.hid (B3.out.trans (b4.mono B3.out.size))
  clear b4
  go_wp2_with fail
  refine (HD1.out _).mono ?_
  rintro e w5 ⟨a1, n1, c1, l1, rfl, k1, k2, k3, k4, k5, b5⟩
  have B5 := Lib.hid (B4.out.trans (b5.mono B4.out.size))
  have K1 := Lib.hid k1
  have K3 := Lib.hid k3
  have K4 := Lib.hid k4
  have K5 := Lib.hid k5
  clear k1 k3 k4 k5 b5
  go_wp2_with fail
  refine (HD2.out _).mono ?_
  rintro e w6 ⟨a2, n2, c2, l2, rfl, j1, j2, j3, j4, j5, b6⟩
  have B6 := Lib.hid (B5.out.trans (b6.mono B5.out.size))
  have hg := greater_any a1 a2 n1 n2 c1 c2 l1 l2 w6 K1.out j1 (by omega) (by omega) K4.out j4 (K3.out.below b6) j3
  rw [K5.out, j5, ← HCC.out] at hg
  have HG := Lib.hid hg
  clear hg j1 j3 j4 j5 b6
  go_wp2_with fail
  refine HG.out.mono ?_
  rintro e w' ⟨rfl, rfl⟩
  go_wp2_with fail
  go_ret2
  exact ⟨rfl, B6.out⟩

set_option maxHeartbeats 2000000 in
set_option maxRecDepth 100000 in
theorem rround_1n (a N D F R : ByteArray) (w : World) (HC : Hid (∀ W, Calls Tryd.prog 25 #[.string a] W (ErrPost W 0)))
    (HW : Hid (∀ W, Calls Tryd.prog 57 #[.string a] W (WrPost W N D)))
    (HQ : Hid (∀ W, Calls Tryd.prog 65 #[.string N, .string D] W fun e w' => e = .returned (.tuple #[.string F, .string R, .int .i64 0]) ∧ Below W.heap.size W w')) (t0 : (R.toList == [48]) = false) (T : ByteArray) (tf : Int) (v1 v2 : Nat) (C : Int) (HT : Hid (∀ W, Calls Tryd.prog 62 #[.string ⟨#[50]⟩, .string R] W (StE W T tf))) (HD1 : Hid (∀ W, Calls Tryd.prog 67 #[.string T] W (DgsP W v1))) (HD2 : Hid (∀ W, Calls Tryd.prog 67 #[.string D] W (DgsP W v2))) (hC : C = cmpN v1 v2) (t3 : T.toList.isEmpty = false)  (h0 : 0 < N.size) (t45 : ((N[0].toNat : Int) != 45) = false) : Calls Tryd.prog 29 #[.string a, .int .u8 1] w (StE w F 0) := by
  have HCC := Lib.hid hC
  clear hC
  go_enter Tryd.func29, Tryd.ntmps29
  go_wp2_with fail
  refine (HC.out _).mono ?_
  rintro e w1 ⟨rfl, b1⟩
  have B1 := Lib.hid (b1)
  clear b1
  go_wp2_with fail
  refine (HW.out _).mono ?_
  rintro e w2 ⟨rfl, b2⟩
  have B2 := Lib.hid (B1.out.trans (b2.mono B1.out.size))
  clear b2
  go_wp2_with fail
  refine (HQ.out _).mono ?_
  rintro e w3 ⟨rfl, b3⟩
  have B3 := Lib.hid (B2.out.trans (b3.mono B2.out.size))
  clear b3
  go_wp2_with fail
  refine (HT.out _).mono ?_
  rintro e w4 ⟨rfl, b4⟩
  have B4 := Lib.hid (B3.out.trans (b4.mono B3.out.size))
  clear b4
  go_wp2_with fail
  refine (HD1.out _).mono ?_
  rintro e w5 ⟨a1, n1, c1, l1, rfl, k1, k2, k3, k4, k5, b5⟩
  have B5 := Lib.hid (B4.out.trans (b5.mono B4.out.size))
  have K1 := Lib.hid k1
  have K3 := Lib.hid k3
  have K4 := Lib.hid k4
  have K5 := Lib.hid k5
  clear k1 k3 k4 k5 b5
  go_wp2_with fail
  refine (HD2.out _).mono ?_
  rintro e w6 ⟨a2, n2, c2, l2, rfl, j1, j2, j3, j4, j5, b6⟩
  have B6 := Lib.hid (B5.out.trans (b6.mono B5.out.size))
  have hg := greater_any a1 a2 n1 n2 c1 c2 l1 l2 w6 K1.out j1 (by omega) (by omega) K4.out j4 (K3.out.below b6) j3
  rw [K5.out, j5, ← HCC.out] at hg
  have HG := Lib.hid hg
  clear hg j1 j3 j4 j5 b6
  go_wp2_with fail
  refine HG.out.mono ?_
  rintro e w' ⟨rfl, rfl⟩
  go_wp2_with fail
  go_ret2
  exact ⟨rfl, B6.out⟩

set_option maxHeartbeats 2000000 in
set_option maxRecDepth 100000 in
theorem rround_1ne (a N D F R : ByteArray) (w : World) (HC : Hid (∀ W, Calls Tryd.prog 25 #[.string a] W (ErrPost W 0)))
    (HW : Hid (∀ W, Calls Tryd.prog 57 #[.string a] W (WrPost W N D)))
    (HQ : Hid (∀ W, Calls Tryd.prog 65 #[.string N, .string D] W fun e w' => e = .returned (.tuple #[.string F, .string R, .int .i64 0]) ∧ Below W.heap.size W w')) (t0 : (R.toList == [48]) = false) (T : ByteArray) (tf : Int) (v1 v2 : Nat) (C : Int) (HT : Hid (∀ W, Calls Tryd.prog 62 #[.string ⟨#[50]⟩, .string R] W (StE W T tf))) (HD1 : Hid (∀ W, Calls Tryd.prog 67 #[.string T] W (DgsP W v1))) (HD2 : Hid (∀ W, Calls Tryd.prog 67 #[.string D] W (DgsP W v2))) (hC : C = cmpN v1 v2) (t3 : T.toList.isEmpty = true)  (h0 : 0 < N.size) (t45 : ((N[0].toNat : Int) != 45) = false) : Calls Tryd.prog 29 #[.string a, .int .u8 1] w (StE w F 0) := by
  have HCC := Lib.hid hC
  clear hC
  go_enter Tryd.func29, Tryd.ntmps29
  go_wp2_with fail
  refine (HC.out _).mono ?_
  rintro e w1 ⟨rfl, b1⟩
  have B1 := Lib.hid (b1)
  clear b1
  go_wp2_with fail
  refine (HW.out _).mono ?_
  rintro e w2 ⟨rfl, b2⟩
  have B2 := Lib.hid (B1.out.trans (b2.mono B1.out.size))
  clear b2
  go_wp2_with fail
  refine (HQ.out _).mono ?_
  rintro e w3 ⟨rfl, b3⟩
  have B3 := Lib.hid (B2.out.trans (b3.mono B2.out.size))
  clear b3
  go_wp2_with fail
  refine (HT.out _).mono ?_
  rintro e w4 ⟨rfl, b4⟩
  have B4 := Lib.hid (B3.out.trans (b4.mono B3.out.size))
  clear b4
  go_wp2_with fail
  refine (HD1.out _).mono ?_
  rintro e w5 ⟨a1, n1, c1, l1, rfl, k1, k2, k3, k4, k5, b5⟩
  have B5 := Lib.hid (B4.out.trans (b5.mono B4.out.size))
  have K1 := Lib.hid k1
  have K3 := Lib.hid k3
  have K4 := Lib.hid k4
  have K5 := Lib.hid k5
  clear k1 k3 k4 k5 b5
  go_wp2_with fail
  refine (HD2.out _).mono ?_
  rintro e w6 ⟨a2, n2, c2, l2, rfl, j1, j2, j3, j4, j5, b6⟩
  have B6 := Lib.hid (B5.out.trans (b6.mono B5.out.size))
  have hg := greater_any a1 a2 n1 n2 c1 c2 l1 l2 w6 K1.out j1 (by omega) (by omega) K4.out j4 (K3.out.below b6) j3
  rw [K5.out, j5, ← HCC.out] at hg
  have HG := Lib.hid hg
  clear hg j1 j3 j4 j5 b6
  go_wp2_with fail
  refine HG.out.mono ?_
  rintro e w' ⟨rfl, rfl⟩
  go_wp2_with fail
  go_ret2
  exact ⟨rfl, B6.out⟩

set_option maxHeartbeats 2000000 in
set_option maxRecDepth 100000 in
theorem rround_1p (a N D F R : ByteArray) (w : World) (HC : Hid (∀ W, Calls Tryd.prog 25 #[.string a] W (ErrPost W 0)))
    (HW : Hid (∀ W, Calls Tryd.prog 57 #[.string a] W (WrPost W N D)))
    (HQ : Hid (∀ W, Calls Tryd.prog 65 #[.string N, .string D] W fun e w' => e = .returned (.tuple #[.string F, .string R, .int .i64 0]) ∧ Below W.heap.size W w')) (t0 : (R.toList == [48]) = false) (T : ByteArray) (tf : Int) (v1 v2 : Nat) (C : Int) (HT : Hid (∀ W, Calls Tryd.prog 62 #[.string ⟨#[50]⟩, .string R] W (StE W T tf))) (HD1 : Hid (∀ W, Calls Tryd.prog 67 #[.string T] W (DgsP W v1))) (HD2 : Hid (∀ W, Calls Tryd.prog 67 #[.string D] W (DgsP W v2))) (hC : C = cmpN v1 v2) (t3 : T.toList.isEmpty = false)  (h0 : 0 < N.size) (t45 : ((N[0].toNat : Int) != 45) = true) (X : ByteArray) (xf : Int) (HA : Hid (∀ W, Calls Tryd.prog 68 #[.string F, .string ⟨#[49]⟩] W (StE W X xf))) : Calls Tryd.prog 29 #[.string a, .int .u8 1] w (StE w X xf) := by
  have HCC := Lib.hid hC
  clear hC
  go_enter Tryd.func29, Tryd.ntmps29
  go_wp2_with fail
  refine (HC.out _).mono ?_
  rintro e w1 ⟨rfl, b1⟩
  have B1 := Lib.hid (b1)
  clear b1
  go_wp2_with fail
  refine (HW.out _).mono ?_
  rintro e w2 ⟨rfl, b2⟩
  have B2 := Lib.hid (B1.out.trans (b2.mono B1.out.size))
  clear b2
  go_wp2_with fail
  refine (HQ.out _).mono ?_
  rintro e w3 ⟨rfl, b3⟩
  have B3 := Lib.hid (B2.out.trans (b3.mono B2.out.size))
  clear b3
  go_wp2_with fail
  refine (HT.out _).mono ?_
  rintro e w4 ⟨rfl, b4⟩
  have B4 := Lib.hid (B3.out.trans (b4.mono B3.out.size))
  clear b4
  go_wp2_with fail
  refine (HD1.out _).mono ?_
  rintro e w5 ⟨a1, n1, c1, l1, rfl, k1, k2, k3, k4, k5, b5⟩
  have B5 := Lib.hid (B4.out.trans (b5.mono B4.out.size))
  have K1 := Lib.hid k1
  have K3 := Lib.hid k3
  have K4 := Lib.hid k4
  have K5 := Lib.hid k5
  clear k1 k3 k4 k5 b5
  go_wp2_with fail
  refine (HD2.out _).mono ?_
  rintro e w6 ⟨a2, n2, c2, l2, rfl, j1, j2, j3, j4, j5, b6⟩
  have B6 := Lib.hid (B5.out.trans (b6.mono B5.out.size))
  have hg := greater_any a1 a2 n1 n2 c1 c2 l1 l2 w6 K1.out j1 (by omega) (by omega) K4.out j4 (K3.out.below b6) j3
  rw [K5.out, j5, ← HCC.out] at hg
  have HG := Lib.hid hg
  clear hg j1 j3 j4 j5 b6
  go_wp2_with fail
  refine HG.out.mono ?_
  rintro e w' ⟨rfl, rfl⟩
  go_wp2_with fail
  refine (HA.out _).mono ?_
  rintro e w8 ⟨rfl, b8⟩
  have B8 := Lib.hid (B6.out.trans (b8.mono B6.out.size))
  clear b8
  go_wp2_with fail
  go_ret2
  exact ⟨rfl, B8.out⟩

set_option maxHeartbeats 2000000 in
set_option maxRecDepth 100000 in
theorem rround_1pe (a N D F R : ByteArray) (w : World) (HC : Hid (∀ W, Calls Tryd.prog 25 #[.string a] W (ErrPost W 0)))
    (HW : Hid (∀ W, Calls Tryd.prog 57 #[.string a] W (WrPost W N D)))
    (HQ : Hid (∀ W, Calls Tryd.prog 65 #[.string N, .string D] W fun e w' => e = .returned (.tuple #[.string F, .string R, .int .i64 0]) ∧ Below W.heap.size W w')) (t0 : (R.toList == [48]) = false) (T : ByteArray) (tf : Int) (v1 v2 : Nat) (C : Int) (HT : Hid (∀ W, Calls Tryd.prog 62 #[.string ⟨#[50]⟩, .string R] W (StE W T tf))) (HD1 : Hid (∀ W, Calls Tryd.prog 67 #[.string T] W (DgsP W v1))) (HD2 : Hid (∀ W, Calls Tryd.prog 67 #[.string D] W (DgsP W v2))) (hC : C = cmpN v1 v2) (t3 : T.toList.isEmpty = true)  (h0 : 0 < N.size) (t45 : ((N[0].toNat : Int) != 45) = true) (X : ByteArray) (xf : Int) (HA : Hid (∀ W, Calls Tryd.prog 68 #[.string F, .string ⟨#[49]⟩] W (StE W X xf))) : Calls Tryd.prog 29 #[.string a, .int .u8 1] w (StE w X xf) := by
  have HCC := Lib.hid hC
  clear hC
  go_enter Tryd.func29, Tryd.ntmps29
  go_wp2_with fail
  refine (HC.out _).mono ?_
  rintro e w1 ⟨rfl, b1⟩
  have B1 := Lib.hid (b1)
  clear b1
  go_wp2_with fail
  refine (HW.out _).mono ?_
  rintro e w2 ⟨rfl, b2⟩
  have B2 := Lib.hid (B1.out.trans (b2.mono B1.out.size))
  clear b2
  go_wp2_with fail
  refine (HQ.out _).mono ?_
  rintro e w3 ⟨rfl, b3⟩
  have B3 := Lib.hid (B2.out.trans (b3.mono B2.out.size))
  clear b3
  go_wp2_with fail
  refine (HT.out _).mono ?_
  rintro e w4 ⟨rfl, b4⟩
  have B4 := Lib.hid (B3.out.trans (b4.mono B3.out.size))
  clear b4
  go_wp2_with fail
  refine (HD1.out _).mono ?_
  rintro e w5 ⟨a1, n1, c1, l1, rfl, k1, k2, k3, k4, k5, b5⟩
  have B5 := Lib.hid (B4.out.trans (b5.mono B4.out.size))
  have K1 := Lib.hid k1
  have K3 := Lib.hid k3
  have K4 := Lib.hid k4
  have K5 := Lib.hid k5
  clear k1 k3 k4 k5 b5
  go_wp2_with fail
  refine (HD2.out _).mono ?_
  rintro e w6 ⟨a2, n2, c2, l2, rfl, j1, j2, j3, j4, j5, b6⟩
  have B6 := Lib.hid (B5.out.trans (b6.mono B5.out.size))
  have hg := greater_any a1 a2 n1 n2 c1 c2 l1 l2 w6 K1.out j1 (by omega) (by omega) K4.out j4 (K3.out.below b6) j3
  rw [K5.out, j5, ← HCC.out] at hg
  have HG := Lib.hid hg
  clear hg j1 j3 j4 j5 b6
  go_wp2_with fail
  refine HG.out.mono ?_
  rintro e w' ⟨rfl, rfl⟩
  go_wp2_with fail
  refine (HA.out _).mono ?_
  rintro e w8 ⟨rfl, b8⟩
  have B8 := Lib.hid (B6.out.trans (b8.mono B6.out.size))
  clear b8
  go_wp2_with fail
  go_ret2
  exact ⟨rfl, B8.out⟩

set_option maxHeartbeats 2000000 in
set_option maxRecDepth 100000 in
theorem rround_2e (a N D F R : ByteArray) (w : World) (HC : Hid (∀ W, Calls Tryd.prog 25 #[.string a] W (ErrPost W 0)))
    (HW : Hid (∀ W, Calls Tryd.prog 57 #[.string a] W (WrPost W N D)))
    (HQ : Hid (∀ W, Calls Tryd.prog 65 #[.string N, .string D] W fun e w' => e = .returned (.tuple #[.string F, .string R, .int .i64 0]) ∧ Below W.heap.size W w')) (t0 : (R.toList == [48]) = false) (T : ByteArray) (tf : Int) (v1 v2 : Nat) (C : Int) (HT : Hid (∀ W, Calls Tryd.prog 62 #[.string ⟨#[50]⟩, .string R] W (StE W T tf))) (HD1 : Hid (∀ W, Calls Tryd.prog 67 #[.string T] W (DgsP W v1))) (HD2 : Hid (∀ W, Calls Tryd.prog 67 #[.string D] W (DgsP W v2))) (hC : C = cmpN v1 v2) (t3 : T.toList.isEmpty = true)   (X : ByteArray) (xf : Int) (HA : Hid (∀ W, Calls Tryd.prog 68 #[.string F, .string ⟨#[49]⟩] W (StE W X xf))) : Calls Tryd.prog 29 #[.string a, .int .u8 2] w (StE w X xf) := by
  have HCC := Lib.hid hC
  clear hC
  go_enter Tryd.func29, Tryd.ntmps29
  go_wp2_with fail
  refine (HC.out _).mono ?_
  rintro e w1 ⟨rfl, b1⟩
  have B1 := Lib.hid (b1)
  clear b1
  go_wp2_with fail
  refine (HW.out _).mono ?_
  rintro e w2 ⟨rfl, b2⟩
  have B2 := Lib.hid (B1.out.trans (b2.mono B1.out.size))
  clear b2
  go_wp2_with fail
  refine (HQ.out _).mono ?_
  rintro e w3 ⟨rfl, b3⟩
  have B3 := Lib.hid (B2.out.trans (b3.mono B2.out.size))
  clear b3
  go_wp2_with fail
  refine (HT.out _).mono ?_
  rintro e w4 ⟨rfl, b4⟩
  have B4 := Lib.hid (B3.out.trans (b4.mono B3.out.size))
  clear b4
  go_wp2_with fail
  refine (HD1.out _).mono ?_
  rintro e w5 ⟨a1, n1, c1, l1, rfl, k1, k2, k3, k4, k5, b5⟩
  have B5 := Lib.hid (B4.out.trans (b5.mono B4.out.size))
  have K1 := Lib.hid k1
  have K3 := Lib.hid k3
  have K4 := Lib.hid k4
  have K5 := Lib.hid k5
  clear k1 k3 k4 k5 b5
  go_wp2_with fail
  refine (HD2.out _).mono ?_
  rintro e w6 ⟨a2, n2, c2, l2, rfl, j1, j2, j3, j4, j5, b6⟩
  have B6 := Lib.hid (B5.out.trans (b6.mono B5.out.size))
  have hg := greater_any a1 a2 n1 n2 c1 c2 l1 l2 w6 K1.out j1 (by omega) (by omega) K4.out j4 (K3.out.below b6) j3
  rw [K5.out, j5, ← HCC.out] at hg
  have HG := Lib.hid hg
  clear hg j1 j3 j4 j5 b6
  go_wp2_with fail
  refine HG.out.mono ?_
  rintro e w' ⟨rfl, rfl⟩
  go_wp2_with fail
  refine (HA.out _).mono ?_
  rintro e w8 ⟨rfl, b8⟩
  have B8 := Lib.hid (B6.out.trans (b8.mono B6.out.size))
  clear b8
  go_wp2_with fail
  go_ret2
  exact ⟨rfl, B8.out⟩

set_option maxHeartbeats 2000000 in
set_option maxRecDepth 100000 in
theorem rround_2g (a N D F R : ByteArray) (w : World) (HC : Hid (∀ W, Calls Tryd.prog 25 #[.string a] W (ErrPost W 0)))
    (HW : Hid (∀ W, Calls Tryd.prog 57 #[.string a] W (WrPost W N D)))
    (HQ : Hid (∀ W, Calls Tryd.prog 65 #[.string N, .string D] W fun e w' => e = .returned (.tuple #[.string F, .string R, .int .i64 0]) ∧ Below W.heap.size W w')) (t0 : (R.toList == [48]) = false) (T : ByteArray) (tf : Int) (v1 v2 : Nat) (C : Int) (HT : Hid (∀ W, Calls Tryd.prog 62 #[.string ⟨#[50]⟩, .string R] W (StE W T tf))) (HD1 : Hid (∀ W, Calls Tryd.prog 67 #[.string T] W (DgsP W v1))) (HD2 : Hid (∀ W, Calls Tryd.prog 67 #[.string D] W (DgsP W v2))) (hC : C = cmpN v1 v2) (t3 : T.toList.isEmpty = false) (tg : decide (0 < C) = true)  (X : ByteArray) (xf : Int) (HA : Hid (∀ W, Calls Tryd.prog 68 #[.string F, .string ⟨#[49]⟩] W (StE W X xf))) : Calls Tryd.prog 29 #[.string a, .int .u8 2] w (StE w X xf) := by
  have HCC := Lib.hid hC
  clear hC
  go_enter Tryd.func29, Tryd.ntmps29
  go_wp2_with fail
  refine (HC.out _).mono ?_
  rintro e w1 ⟨rfl, b1⟩
  have B1 := Lib.hid (b1)
  clear b1
  go_wp2_with fail
  refine (HW.out _).mono ?_
  rintro e w2 ⟨rfl, b2⟩
  have B2 := Lib.hid (B1.out.trans (b2.mono B1.out.size))
  clear b2
  go_wp2_with fail
  refine (HQ.out _).mono ?_
  rintro e w3 ⟨rfl, b3⟩
  have B3 := Lib.hid (B2.out.trans (b3.mono B2.out.size))
  clear b3
  go_wp2_with fail
  refine (HT.out _).mono ?_
  rintro e w4 ⟨rfl, b4⟩
  have B4 := Lib.hid (B3.out.trans (b4.mono B3.out.size))
  clear b4
  go_wp2_with fail
  refine (HD1.out _).mono ?_
  rintro e w5 ⟨a1, n1, c1, l1, rfl, k1, k2, k3, k4, k5, b5⟩
  have B5 := Lib.hid (B4.out.trans (b5.mono B4.out.size))
  have K1 := Lib.hid k1
  have K3 := Lib.hid k3
  have K4 := Lib.hid k4
  have K5 := Lib.hid k5
  clear k1 k3 k4 k5 b5
  go_wp2_with fail
  refine (HD2.out _).mono ?_
  rintro e w6 ⟨a2, n2, c2, l2, rfl, j1, j2, j3, j4, j5, b6⟩
  have B6 := Lib.hid (B5.out.trans (b6.mono B5.out.size))
  have hg := greater_any a1 a2 n1 n2 c1 c2 l1 l2 w6 K1.out j1 (by omega) (by omega) K4.out j4 (K3.out.below b6) j3
  rw [K5.out, j5, ← HCC.out] at hg
  have HG := Lib.hid hg
  clear hg j1 j3 j4 j5 b6
  go_wp2_with fail
  refine HG.out.mono ?_
  rintro e w' ⟨rfl, rfl⟩
  go_wp2_with fail
  refine (HA.out _).mono ?_
  rintro e w8 ⟨rfl, b8⟩
  have B8 := Lib.hid (B6.out.trans (b8.mono B6.out.size))
  clear b8
  go_wp2_with fail
  go_ret2
  exact ⟨rfl, B8.out⟩

set_option maxHeartbeats 2000000 in
set_option maxRecDepth 100000 in
theorem rround_2l (a N D F R : ByteArray) (w : World) (HC : Hid (∀ W, Calls Tryd.prog 25 #[.string a] W (ErrPost W 0)))
    (HW : Hid (∀ W, Calls Tryd.prog 57 #[.string a] W (WrPost W N D)))
    (HQ : Hid (∀ W, Calls Tryd.prog 65 #[.string N, .string D] W fun e w' => e = .returned (.tuple #[.string F, .string R, .int .i64 0]) ∧ Below W.heap.size W w')) (t0 : (R.toList == [48]) = false) (T : ByteArray) (tf : Int) (v1 v2 : Nat) (C : Int) (HT : Hid (∀ W, Calls Tryd.prog 62 #[.string ⟨#[50]⟩, .string R] W (StE W T tf))) (HD1 : Hid (∀ W, Calls Tryd.prog 67 #[.string T] W (DgsP W v1))) (HD2 : Hid (∀ W, Calls Tryd.prog 67 #[.string D] W (DgsP W v2))) (hC : C = cmpN v1 v2) (t3 : T.toList.isEmpty = false) (tg : decide (0 < C) = false) (tz : (C == 0) = false)  : Calls Tryd.prog 29 #[.string a, .int .u8 2] w (StE w F 0) := by
  have HCC := Lib.hid hC
  clear hC
  go_enter Tryd.func29, Tryd.ntmps29
  go_wp2_with fail
  refine (HC.out _).mono ?_
  rintro e w1 ⟨rfl, b1⟩
  have B1 := Lib.hid (b1)
  clear b1
  go_wp2_with fail
  refine (HW.out _).mono ?_
  rintro e w2 ⟨rfl, b2⟩
  have B2 := Lib.hid (B1.out.trans (b2.mono B1.out.size))
  clear b2
  go_wp2_with fail
  refine (HQ.out _).mono ?_
  rintro e w3 ⟨rfl, b3⟩
  have B3 := Lib.hid (B2.out.trans (b3.mono B2.out.size))
  clear b3
  go_wp2_with fail
  refine (HT.out _).mono ?_
  rintro e w4 ⟨rfl, b4⟩
  have B4 := Lib.hid (B3.out.trans (b4.mono B3.out.size))
  clear b4
  go_wp2_with fail
  refine (HD1.out _).mono ?_
  rintro e w5 ⟨a1, n1, c1, l1, rfl, k1, k2, k3, k4, k5, b5⟩
  have B5 := Lib.hid (B4.out.trans (b5.mono B4.out.size))
  have K1 := Lib.hid k1
  have K3 := Lib.hid k3
  have K4 := Lib.hid k4
  have K5 := Lib.hid k5
  clear k1 k3 k4 k5 b5
  go_wp2_with fail
  refine (HD2.out _).mono ?_
  rintro e w6 ⟨a2, n2, c2, l2, rfl, j1, j2, j3, j4, j5, b6⟩
  have B6 := Lib.hid (B5.out.trans (b6.mono B5.out.size))
  have hg := greater_any a1 a2 n1 n2 c1 c2 l1 l2 w6 K1.out j1 (by omega) (by omega) K4.out j4 (K3.out.below b6) j3
  rw [K5.out, j5, ← HCC.out] at hg
  have HG := Lib.hid hg
  clear hg j1 j3 j4 j5 b6
  go_wp2_with fail
  refine HG.out.mono ?_
  rintro e w' ⟨rfl, rfl⟩
  go_wp2_with fail
  go_ret2
  exact ⟨rfl, B6.out⟩

set_option maxHeartbeats 2000000 in
set_option maxRecDepth 100000 in
theorem rround_3e (a N D F R : ByteArray) (w : World) (HC : Hid (∀ W, Calls Tryd.prog 25 #[.string a] W (ErrPost W 0)))
    (HW : Hid (∀ W, Calls Tryd.prog 57 #[.string a] W (WrPost W N D)))
    (HQ : Hid (∀ W, Calls Tryd.prog 65 #[.string N, .string D] W fun e w' => e = .returned (.tuple #[.string F, .string R, .int .i64 0]) ∧ Below W.heap.size W w')) (t0 : (R.toList == [48]) = false) (T : ByteArray) (tf : Int) (v1 v2 : Nat) (C : Int) (HT : Hid (∀ W, Calls Tryd.prog 62 #[.string ⟨#[50]⟩, .string R] W (StE W T tf))) (HD1 : Hid (∀ W, Calls Tryd.prog 67 #[.string T] W (DgsP W v1))) (HD2 : Hid (∀ W, Calls Tryd.prog 67 #[.string D] W (DgsP W v2))) (hC : C = cmpN v1 v2) (t3 : T.toList.isEmpty = true)   (X : ByteArray) (xf : Int) (HA : Hid (∀ W, Calls Tryd.prog 68 #[.string F, .string ⟨#[49]⟩] W (StE W X xf))) : Calls Tryd.prog 29 #[.string a, .int .u8 3] w (StE w X xf) := by
  have HCC := Lib.hid hC
  clear hC
  go_enter Tryd.func29, Tryd.ntmps29
  go_wp2_with fail
  refine (HC.out _).mono ?_
  rintro e w1 ⟨rfl, b1⟩
  have B1 := Lib.hid (b1)
  clear b1
  go_wp2_with fail
  refine (HW.out _).mono ?_
  rintro e w2 ⟨rfl, b2⟩
  have B2 := Lib.hid (B1.out.trans (b2.mono B1.out.size))
  clear b2
  go_wp2_with fail
  refine (HQ.out _).mono ?_
  rintro e w3 ⟨rfl, b3⟩
  have B3 := Lib.hid (B2.out.trans (b3.mono B2.out.size))
  clear b3
  go_wp2_with fail
  refine (HT.out _).mono ?_
  rintro e w4 ⟨rfl, b4⟩
  have B4 := Lib.hid (B3.out.trans (b4.mono B3.out.size))
  clear b4
  go_wp2_with fail
  refine (HD1.out _).mono ?_
  rintro e w5 ⟨a1, n1, c1, l1, rfl, k1, k2, k3, k4, k5, b5⟩
  have B5 := Lib.hid (B4.out.trans (b5.mono B4.out.size))
  have K1 := Lib.hid k1
  have K3 := Lib.hid k3
  have K4 := Lib.hid k4
  have K5 := Lib.hid k5
  clear k1 k3 k4 k5 b5
  go_wp2_with fail
  refine (HD2.out _).mono ?_
  rintro e w6 ⟨a2, n2, c2, l2, rfl, j1, j2, j3, j4, j5, b6⟩
  have B6 := Lib.hid (B5.out.trans (b6.mono B5.out.size))
  have hg := greater_any a1 a2 n1 n2 c1 c2 l1 l2 w6 K1.out j1 (by omega) (by omega) K4.out j4 (K3.out.below b6) j3
  rw [K5.out, j5, ← HCC.out] at hg
  have HG := Lib.hid hg
  clear hg j1 j3 j4 j5 b6
  go_wp2_with fail
  refine HG.out.mono ?_
  rintro e w' ⟨rfl, rfl⟩
  go_wp2_with fail
  refine (HA.out _).mono ?_
  rintro e w8 ⟨rfl, b8⟩
  have B8 := Lib.hid (B6.out.trans (b8.mono B6.out.size))
  clear b8
  go_wp2_with fail
  go_ret2
  exact ⟨rfl, B8.out⟩

set_option maxHeartbeats 2000000 in
set_option maxRecDepth 100000 in
theorem rround_3g (a N D F R : ByteArray) (w : World) (HC : Hid (∀ W, Calls Tryd.prog 25 #[.string a] W (ErrPost W 0)))
    (HW : Hid (∀ W, Calls Tryd.prog 57 #[.string a] W (WrPost W N D)))
    (HQ : Hid (∀ W, Calls Tryd.prog 65 #[.string N, .string D] W fun e w' => e = .returned (.tuple #[.string F, .string R, .int .i64 0]) ∧ Below W.heap.size W w')) (t0 : (R.toList == [48]) = false) (T : ByteArray) (tf : Int) (v1 v2 : Nat) (C : Int) (HT : Hid (∀ W, Calls Tryd.prog 62 #[.string ⟨#[50]⟩, .string R] W (StE W T tf))) (HD1 : Hid (∀ W, Calls Tryd.prog 67 #[.string T] W (DgsP W v1))) (HD2 : Hid (∀ W, Calls Tryd.prog 67 #[.string D] W (DgsP W v2))) (hC : C = cmpN v1 v2) (t3 : T.toList.isEmpty = false) (tg : decide (0 < C) = true)  (X : ByteArray) (xf : Int) (HA : Hid (∀ W, Calls Tryd.prog 68 #[.string F, .string ⟨#[49]⟩] W (StE W X xf))) : Calls Tryd.prog 29 #[.string a, .int .u8 3] w (StE w X xf) := by
  have HCC := Lib.hid hC
  clear hC
  go_enter Tryd.func29, Tryd.ntmps29
  go_wp2_with fail
  refine (HC.out _).mono ?_
  rintro e w1 ⟨rfl, b1⟩
  have B1 := Lib.hid (b1)
  clear b1
  go_wp2_with fail
  refine (HW.out _).mono ?_
  rintro e w2 ⟨rfl, b2⟩
  have B2 := Lib.hid (B1.out.trans (b2.mono B1.out.size))
  clear b2
  go_wp2_with fail
  refine (HQ.out _).mono ?_
  rintro e w3 ⟨rfl, b3⟩
  have B3 := Lib.hid (B2.out.trans (b3.mono B2.out.size))
  clear b3
  go_wp2_with fail
  refine (HT.out _).mono ?_
  rintro e w4 ⟨rfl, b4⟩
  have B4 := Lib.hid (B3.out.trans (b4.mono B3.out.size))
  clear b4
  go_wp2_with fail
  refine (HD1.out _).mono ?_
  rintro e w5 ⟨a1, n1, c1, l1, rfl, k1, k2, k3, k4, k5, b5⟩
  have B5 := Lib.hid (B4.out.trans (b5.mono B4.out.size))
  have K1 := Lib.hid k1
  have K3 := Lib.hid k3
  have K4 := Lib.hid k4
  have K5 := Lib.hid k5
  clear k1 k3 k4 k5 b5
  go_wp2_with fail
  refine (HD2.out _).mono ?_
  rintro e w6 ⟨a2, n2, c2, l2, rfl, j1, j2, j3, j4, j5, b6⟩
  have B6 := Lib.hid (B5.out.trans (b6.mono B5.out.size))
  have hg := greater_any a1 a2 n1 n2 c1 c2 l1 l2 w6 K1.out j1 (by omega) (by omega) K4.out j4 (K3.out.below b6) j3
  rw [K5.out, j5, ← HCC.out] at hg
  have HG := Lib.hid hg
  clear hg j1 j3 j4 j5 b6
  go_wp2_with fail
  refine HG.out.mono ?_
  rintro e w' ⟨rfl, rfl⟩
  go_wp2_with fail
  refine (HA.out _).mono ?_
  rintro e w8 ⟨rfl, b8⟩
  have B8 := Lib.hid (B6.out.trans (b8.mono B6.out.size))
  clear b8
  go_wp2_with fail
  go_ret2
  exact ⟨rfl, B8.out⟩

set_option maxHeartbeats 2000000 in
set_option maxRecDepth 100000 in
theorem rround_3l (a N D F R : ByteArray) (w : World) (HC : Hid (∀ W, Calls Tryd.prog 25 #[.string a] W (ErrPost W 0)))
    (HW : Hid (∀ W, Calls Tryd.prog 57 #[.string a] W (WrPost W N D)))
    (HQ : Hid (∀ W, Calls Tryd.prog 65 #[.string N, .string D] W fun e w' => e = .returned (.tuple #[.string F, .string R, .int .i64 0]) ∧ Below W.heap.size W w')) (t0 : (R.toList == [48]) = false) (T : ByteArray) (tf : Int) (v1 v2 : Nat) (C : Int) (HT : Hid (∀ W, Calls Tryd.prog 62 #[.string ⟨#[50]⟩, .string R] W (StE W T tf))) (HD1 : Hid (∀ W, Calls Tryd.prog 67 #[.string T] W (DgsP W v1))) (HD2 : Hid (∀ W, Calls Tryd.prog 67 #[.string D] W (DgsP W v2))) (hC : C = cmpN v1 v2) (t3 : T.toList.isEmpty = false) (tg : decide (0 < C) = false) (tz : (C == 0) = false)  : Calls Tryd.prog 29 #[.string a, .int .u8 3] w (StE w F 0) := by
  have HCC := Lib.hid hC
  clear hC
  go_enter Tryd.func29, Tryd.ntmps29
  go_wp2_with fail
  refine (HC.out _).mono ?_
  rintro e w1 ⟨rfl, b1⟩
  have B1 := Lib.hid (b1)
  clear b1
  go_wp2_with fail
  refine (HW.out _).mono ?_
  rintro e w2 ⟨rfl, b2⟩
  have B2 := Lib.hid (B1.out.trans (b2.mono B1.out.size))
  clear b2
  go_wp2_with fail
  refine (HQ.out _).mono ?_
  rintro e w3 ⟨rfl, b3⟩
  have B3 := Lib.hid (B2.out.trans (b3.mono B2.out.size))
  clear b3
  go_wp2_with fail
  refine (HT.out _).mono ?_
  rintro e w4 ⟨rfl, b4⟩
  have B4 := Lib.hid (B3.out.trans (b4.mono B3.out.size))
  clear b4
  go_wp2_with fail
  refine (HD1.out _).mono ?_
  rintro e w5 ⟨a1, n1, c1, l1, rfl, k1, k2, k3, k4, k5, b5⟩
  have B5 := Lib.hid (B4.out.trans (b5.mono B4.out.size))
  have K1 := Lib.hid k1
  have K3 := Lib.hid k3
  have K4 := Lib.hid k4
  have K5 := Lib.hid k5
  clear k1 k3 k4 k5 b5
  go_wp2_with fail
  refine (HD2.out _).mono ?_
  rintro e w6 ⟨a2, n2, c2, l2, rfl, j1, j2, j3, j4, j5, b6⟩
  have B6 := Lib.hid (B5.out.trans (b6.mono B5.out.size))
  have hg := greater_any a1 a2 n1 n2 c1 c2 l1 l2 w6 K1.out j1 (by omega) (by omega) K4.out j4 (K3.out.below b6) j3
  rw [K5.out, j5, ← HCC.out] at hg
  have HG := Lib.hid hg
  clear hg j1 j3 j4 j5 b6
  go_wp2_with fail
  refine HG.out.mono ?_
  rintro e w' ⟨rfl, rfl⟩
  go_wp2_with fail
  go_ret2
  exact ⟨rfl, B6.out⟩

set_option maxHeartbeats 2000000 in
set_option maxRecDepth 100000 in
theorem rround_2zn (a N D F R : ByteArray) (w : World) (HC : Hid (∀ W, Calls Tryd.prog 25 #[.string a] W (ErrPost W 0)))
    (HW : Hid (∀ W, Calls Tryd.prog 57 #[.string a] W (WrPost W N D)))
    (HQ : Hid (∀ W, Calls Tryd.prog 65 #[.string N, .string D] W fun e w' => e = .returned (.tuple #[.string F, .string R, .int .i64 0]) ∧ Below W.heap.size W w')) (t0 : (R.toList == [48]) = false) (T : ByteArray) (tf : Int) (v1 v2 : Nat) (C : Int) (HT : Hid (∀ W, Calls Tryd.prog 62 #[.string ⟨#[50]⟩, .string R] W (StE W T tf))) (HD1 : Hid (∀ W, Calls Tryd.prog 67 #[.string T] W (DgsP W v1))) (HD2 : Hid (∀ W, Calls Tryd.prog 67 #[.string D] W (DgsP W v2))) (hC : C = cmpN v1 v2) (t3 : T.toList.isEmpty = false) (tg : decide (0 < C) = false) (tz : (C == 0) = true) (h0 : 0 < N.size) (t45 : ((N[0].toNat : Int) != 45) = false) : Calls Tryd.prog 29 #[.string a, .int .u8 2] w (StE w F 0) := by
  have HCC := Lib.hid hC
  clear hC
  go_enter Tryd.func29, Tryd.ntmps29
  go_wp2_with fail
  refine (HC.out _).mono ?_
  rintro e w1 ⟨rfl, b1⟩
  have B1 := Lib.hid (b1)
  clear b1
  go_wp2_with fail
  refine (HW.out _).mono ?_
  rintro e w2 ⟨rfl, b2⟩
  have B2 := Lib.hid (B1.out.trans (b2.mono B1.out.size))
  clear b2
  go_wp2_with fail
  refine (HQ.out _).mono ?_
  rintro e w3 ⟨rfl, b3⟩
  have B3 := Lib.hid (B2.out.trans (b3.mono B2.out.size))
  clear b3
  go_wp2_with fail
  refine (HT.out _).mono ?_
  rintro e w4 ⟨rfl, b4⟩
  have B4 := Lib.hid (B3.out.trans (b4.mono B3.out.size))
  clear b4
  go_wp2_with fail
  refine (HD1.out _).mono ?_
  rintro e w5 ⟨a1, n1, c1, l1, rfl, k1, k2, k3, k4, k5, b5⟩
  have B5 := Lib.hid (B4.out.trans (b5.mono B4.out.size))
  have K1 := Lib.hid k1
  have K3 := Lib.hid k3
  have K4 := Lib.hid k4
  have K5 := Lib.hid k5
  clear k1 k3 k4 k5 b5
  go_wp2_with fail
  refine (HD2.out _).mono ?_
  rintro e w6 ⟨a2, n2, c2, l2, rfl, j1, j2, j3, j4, j5, b6⟩
  have B6 := Lib.hid (B5.out.trans (b6.mono B5.out.size))
  have hg := greater_any a1 a2 n1 n2 c1 c2 l1 l2 w6 K1.out j1 (by omega) (by omega) K4.out j4 (K3.out.below b6) j3
  rw [K5.out, j5, ← HCC.out] at hg
  have HG := Lib.hid hg
  clear hg j1 j3 j4 j5 b6
  go_wp2_with fail
  refine HG.out.mono ?_
  rintro e w' ⟨rfl, rfl⟩
  go_wp2_with fail
  go_ret2
  exact ⟨rfl, B6.out⟩

set_option maxHeartbeats 2000000 in
set_option maxRecDepth 100000 in
theorem rround_2zp (a N D F R : ByteArray) (w : World) (HC : Hid (∀ W, Calls Tryd.prog 25 #[.string a] W (ErrPost W 0)))
    (HW : Hid (∀ W, Calls Tryd.prog 57 #[.string a] W (WrPost W N D)))
    (HQ : Hid (∀ W, Calls Tryd.prog 65 #[.string N, .string D] W fun e w' => e = .returned (.tuple #[.string F, .string R, .int .i64 0]) ∧ Below W.heap.size W w')) (t0 : (R.toList == [48]) = false) (T : ByteArray) (tf : Int) (v1 v2 : Nat) (C : Int) (HT : Hid (∀ W, Calls Tryd.prog 62 #[.string ⟨#[50]⟩, .string R] W (StE W T tf))) (HD1 : Hid (∀ W, Calls Tryd.prog 67 #[.string T] W (DgsP W v1))) (HD2 : Hid (∀ W, Calls Tryd.prog 67 #[.string D] W (DgsP W v2))) (hC : C = cmpN v1 v2) (t3 : T.toList.isEmpty = false) (tg : decide (0 < C) = false) (tz : (C == 0) = true) (h0 : 0 < N.size) (t45 : ((N[0].toNat : Int) != 45) = true) (X : ByteArray) (xf : Int) (HA : Hid (∀ W, Calls Tryd.prog 68 #[.string F, .string ⟨#[49]⟩] W (StE W X xf))) : Calls Tryd.prog 29 #[.string a, .int .u8 2] w (StE w X xf) := by
  have HCC := Lib.hid hC
  clear hC
  go_enter Tryd.func29, Tryd.ntmps29
  go_wp2_with fail
  refine (HC.out _).mono ?_
  rintro e w1 ⟨rfl, b1⟩
  have B1 := Lib.hid (b1)
  clear b1
  go_wp2_with fail
  refine (HW.out _).mono ?_
  rintro e w2 ⟨rfl, b2⟩
  have B2 := Lib.hid (B1.out.trans (b2.mono B1.out.size))
  clear b2
  go_wp2_with fail
  refine (HQ.out _).mono ?_
  rintro e w3 ⟨rfl, b3⟩
  have B3 := Lib.hid (B2.out.trans (b3.mono B2.out.size))
  clear b3
  go_wp2_with fail
  refine (HT.out _).mono ?_
  rintro e w4 ⟨rfl, b4⟩
  have B4 := Lib.hid (B3.out.trans (b4.mono B3.out.size))
  clear b4
  go_wp2_with fail
  refine (HD1.out _).mono ?_
  rintro e w5 ⟨a1, n1, c1, l1, rfl, k1, k2, k3, k4, k5, b5⟩
  have B5 := Lib.hid (B4.out.trans (b5.mono B4.out.size))
  have K1 := Lib.hid k1
  have K3 := Lib.hid k3
  have K4 := Lib.hid k4
  have K5 := Lib.hid k5
  clear k1 k3 k4 k5 b5
  go_wp2_with fail
  refine (HD2.out _).mono ?_
  rintro e w6 ⟨a2, n2, c2, l2, rfl, j1, j2, j3, j4, j5, b6⟩
  have B6 := Lib.hid (B5.out.trans (b6.mono B5.out.size))
  have hg := greater_any a1 a2 n1 n2 c1 c2 l1 l2 w6 K1.out j1 (by omega) (by omega) K4.out j4 (K3.out.below b6) j3
  rw [K5.out, j5, ← HCC.out] at hg
  have HG := Lib.hid hg
  clear hg j1 j3 j4 j5 b6
  go_wp2_with fail
  refine HG.out.mono ?_
  rintro e w' ⟨rfl, rfl⟩
  go_wp2_with fail
  refine (HA.out _).mono ?_
  rintro e w8 ⟨rfl, b8⟩
  have B8 := Lib.hid (B6.out.trans (b8.mono B6.out.size))
  clear b8
  go_wp2_with fail
  go_ret2
  exact ⟨rfl, B8.out⟩

set_option maxHeartbeats 2000000 in
set_option maxRecDepth 100000 in
theorem rround_3zo (a N D F R : ByteArray) (w : World) (HC : Hid (∀ W, Calls Tryd.prog 25 #[.string a] W (ErrPost W 0)))
    (HW : Hid (∀ W, Calls Tryd.prog 57 #[.string a] W (WrPost W N D)))
    (HQ : Hid (∀ W, Calls Tryd.prog 65 #[.string N, .string D] W fun e w' => e = .returned (.tuple #[.string F, .string R, .int .i64 0]) ∧ Below W.heap.size W w')) (t0 : (R.toList == [48]) = false) (T : ByteArray) (tf : Int) (v1 v2 vf : Nat) (C : Int) (HT : Hid (∀ W, Calls Tryd.prog 62 #[.string ⟨#[50]⟩, .string R] W (StE W T tf))) (HD1 : Hid (∀ W, Calls Tryd.prog 67 #[.string T] W (DgsP W v1))) (HD2 : Hid (∀ W, Calls Tryd.prog 67 #[.string D] W (DgsP W v2))) (hC : C = cmpN v1 v2) (t3 : T.toList.isEmpty = false) (tg : decide (0 < C) = false) (tz : (C == 0) = true)  (HO : Hid (∀ W, Calls Tryd.prog 67 #[.string F] W (DgsOK W vf))) (todd : (((decN vf).getD 0 0 : Nat) : Int) % 2 = 1) (hvf : 0 < (decN vf).length) (X : ByteArray) (xf : Int) (HA : Hid (∀ W, Calls Tryd.prog 68 #[.string F, .string ⟨#[49]⟩] W (StE W X xf))) : Calls Tryd.prog 29 #[.string a, .int .u8 3] w (StE w X xf) := by
  have HCC := Lib.hid hC
  clear hC
  go_enter Tryd.func29, Tryd.ntmps29
  go_wp2_with fail
  refine (HC.out _).mono ?_
  rintro e w1 ⟨rfl, b1⟩
  have B1 := Lib.hid (b1)
  clear b1
  go_wp2_with fail
  refine (HW.out _).mono ?_
  rintro e w2 ⟨rfl, b2⟩
  have B2 := Lib.hid (B1.out.trans (b2.mono B1.out.size))
  clear b2
  go_wp2_with fail
  refine (HQ.out _).mono ?_
  rintro e w3 ⟨rfl, b3⟩
  have B3 := Lib.hid (B2.out.trans (b3.mono B2.out.size))
  clear b3
  go_wp2_with fail
  refine (HT.out _).mono ?_
  rintro e w4 ⟨rfl, b4⟩
  have B4 := Lib.hid (B3.out.trans (b4.mono B3.out.size))
  clear b4
  go_wp2_with fail
  refine (HD1.out _).mono ?_
  rintro e w5 ⟨a1, n1, c1, l1, rfl, k1, k2, k3, k4, k5, b5⟩
  have B5 := Lib.hid (B4.out.trans (b5.mono B4.out.size))
  have K1 := Lib.hid k1
  have K3 := Lib.hid k3
  have K4 := Lib.hid k4
  have K5 := Lib.hid k5
  clear k1 k3 k4 k5 b5
  go_wp2_with fail
  refine (HD2.out _).mono ?_
  rintro e w6 ⟨a2, n2, c2, l2, rfl, j1, j2, j3, j4, j5, b6⟩
  have B6 := Lib.hid (B5.out.trans (b6.mono B5.out.size))
  have hg := greater_any a1 a2 n1 n2 c1 c2 l1 l2 w6 K1.out j1 (by omega) (by omega) K4.out j4 (K3.out.below b6) j3
  rw [K5.out, j5, ← HCC.out] at hg
  have HG := Lib.hid hg
  clear hg j1 j3 j4 j5 b6
  go_wp2_with fail
  refine HG.out.mono ?_
  rintro e w' ⟨rfl, rfl⟩
  go_wp2_with fail
  refine (HO.out _).mono ?_
  rintro e w7 ⟨a7, n7, c7, rfl, i1, i2, i3, b7⟩
  obtain ⟨g7, o7, rfl, hg7, hc7⟩ := i3 0 hvf
  have B7 := Lib.hid (B6.out.trans (b7.mono B6.out.size))
  obtain ⟨y, hy⟩ : ∃ y, y = (decN vf).getD 0 0 := ⟨_, rfl⟩
  rw [← hy] at todd hc7
  rw [Nat.add_zero] at hc7
  have hnp : 0 < n7 := by omega
  have tq : (((y : Nat) : Int) % 2 == 1) = true := by rw [todd]; rfl
  clear i1 i3 b7 hy hvf todd
  go_wp2_with fail
  refine (HA.out _).mono ?_
  rintro e w8 ⟨rfl, b8⟩
  have B8 := Lib.hid (B7.out.trans (b8.mono B7.out.size))
  clear b8
  go_wp2_with fail
  go_ret2
  exact ⟨rfl, B8.out⟩

set_option maxHeartbeats 2000000 in
set_option maxRecDepth 100000 in
theorem rround_3ze (a N D F R : ByteArray) (w : World) (HC : Hid (∀ W, Calls Tryd.prog 25 #[.string a] W (ErrPost W 0)))
    (HW : Hid (∀ W, Calls Tryd.prog 57 #[.string a] W (WrPost W N D)))
    (HQ : Hid (∀ W, Calls Tryd.prog 65 #[.string N, .string D] W fun e w' => e = .returned (.tuple #[.string F, .string R, .int .i64 0]) ∧ Below W.heap.size W w')) (t0 : (R.toList == [48]) = false) (T : ByteArray) (tf : Int) (v1 v2 vf : Nat) (C : Int) (HT : Hid (∀ W, Calls Tryd.prog 62 #[.string ⟨#[50]⟩, .string R] W (StE W T tf))) (HD1 : Hid (∀ W, Calls Tryd.prog 67 #[.string T] W (DgsP W v1))) (HD2 : Hid (∀ W, Calls Tryd.prog 67 #[.string D] W (DgsP W v2))) (hC : C = cmpN v1 v2) (t3 : T.toList.isEmpty = false) (tg : decide (0 < C) = false) (tz : (C == 0) = true)  (HO : Hid (∀ W, Calls Tryd.prog 67 #[.string F] W (DgsOK W vf))) (todd : (((decN vf).getD 0 0 : Nat) : Int) % 2 = 0) (hvf : 0 < (decN vf).length) : Calls Tryd.prog 29 #[.string a, .int .u8 3] w (StE w F 0) := by
  have HCC := Lib.hid hC
  clear hC
  go_enter Tryd.func29, Tryd.ntmps29
  go_wp2_with fail
  refine (HC.out _).mono ?_
  rintro e w1 ⟨rfl, b1⟩
  have B1 := Lib.hid (b1)
  clear b1
  go_wp2_with fail
  refine (HW.out _).mono ?_
  rintro e w2 ⟨rfl, b2⟩
  have B2 := Lib.hid (B1.out.trans (b2.mono B1.out.size))
  clear b2
  go_wp2_with fail
  refine (HQ.out _).mono ?_
  rintro e w3 ⟨rfl, b3⟩
  have B3 := Lib.hid (B2.out.trans (b3.mono B2.out.size))
  clear b3
  go_wp2_with fail
  refine (HT.out _).mono ?_
  rintro e w4 ⟨rfl, b4⟩
  have B4 := Lib.hid (B3.out.trans (b4.mono B3.out.size))
  clear b4
  go_wp2_with fail
  refine (HD1.out _).mono ?_
  rintro e w5 ⟨a1, n1, c1, l1, rfl, k1, k2, k3, k4, k5, b5⟩
  have B5 := Lib.hid (B4.out.trans (b5.mono B4.out.size))
  have K1 := Lib.hid k1
  have K3 := Lib.hid k3
  have K4 := Lib.hid k4
  have K5 := Lib.hid k5
  clear k1 k3 k4 k5 b5
  go_wp2_with fail
  refine (HD2.out _).mono ?_
  rintro e w6 ⟨a2, n2, c2, l2, rfl, j1, j2, j3, j4, j5, b6⟩
  have B6 := Lib.hid (B5.out.trans (b6.mono B5.out.size))
  have hg := greater_any a1 a2 n1 n2 c1 c2 l1 l2 w6 K1.out j1 (by omega) (by omega) K4.out j4 (K3.out.below b6) j3
  rw [K5.out, j5, ← HCC.out] at hg
  have HG := Lib.hid hg
  clear hg j1 j3 j4 j5 b6
  go_wp2_with fail
  refine HG.out.mono ?_
  rintro e w' ⟨rfl, rfl⟩
  go_wp2_with fail
  refine (HO.out _).mono ?_
  rintro e w7 ⟨a7, n7, c7, rfl, i1, i2, i3, b7⟩
  obtain ⟨g7, o7, rfl, hg7, hc7⟩ := i3 0 hvf
  have B7 := Lib.hid (B6.out.trans (b7.mono B6.out.size))
  obtain ⟨y, hy⟩ : ∃ y, y = (decN vf).getD 0 0 := ⟨_, rfl⟩
  rw [← hy] at todd hc7
  rw [Nat.add_zero] at hc7
  have hnp : 0 < n7 := by omega
  have tq : (((y : Nat) : Int) % 2 == 1) = false := by rw [todd]; rfl
  clear i1 i3 b7 hy hvf todd
  go_wp2_with fail
  go_ret2
  exact ⟨rfl, B7.out⟩


end Go.Proofs.YtnikhbdjlipcbaaDoor
