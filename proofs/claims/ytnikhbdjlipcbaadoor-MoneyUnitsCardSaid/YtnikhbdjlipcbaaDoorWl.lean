/-
  The reference's To, by value. No condition.
-/
import Derived.Test.YtnikhbdjlipcbaaDoorWk
import Derived.Test.YtnikhbdjlipcbaaDoorVr
namespace Go.Proofs.YtnikhbdjlipcbaaDoor
open Go.RowKit

theorem dval_drop_le (l : List Nat) (k : Nat) : dval (l.drop k) ≤ dval l := by
  have h := dval_split l k
  have h1 : dval (l.drop k) ≤ 10 ^ k * dval (l.drop k) := Nat.le_mul_of_pos_left _ (Nat.pow_pos (by omega))
  omega
theorem bothC {x : Int} (bx : bigZ x = false) : chkZ (txtZ x) = 0 := by rw [chkZ_txtZ, bx]; rfl
set_option maxHeartbeats 2000000 in
set_option maxRecDepth 100000 in
theorem rto_pbig (s : ByteArray) (x : Int) (w : World) (hs : s.size ≤ 100000) (hx : s.data.toList = txtZ x) (bx : bigZ x = false) (hx0 : 0 ≤ x) (hbig : 9223372036854775807 < x.natAbs) :
    Calls Tryd.prog 30 #[.string s] w fun e w' => e = .returned (.tuple #[.int .i64 0, .int .i64 14]) ∧ Below w.heap.size w w' := by
  have hc := rcheck_any s w (by omega)
  rw [hx, bothC bx] at hc
  have lx : (decN x.natAbs).length ≤ 1000 := by unfold bigZ at bx; simpa using bx
  have HC := Lib.hid hc
  have hd := fun W => digits_ok s x W (by omega) hx
  unfold DigOK at hd
  rw [show decide (x < 0) = false by simp; omega] at hd
  have HD := Lib.hid hd
  have HL0 := Lib.hid (fun W => rdigits1_ok ⟨#[57, 50, 50, 51, 51, 55, 50, 48, 51, 54, 56, 53, 52, 55, 55, 53, 56, 48, 55]⟩ 9223372036854775807 W (by decide) (rdZ_some (by decide)))
  clear hc hd hx bx
  go_enter Tryd.func30, Tryd.ntmps30
  go_wp2_with fail
  refine HC.out.mono ?_
  rintro e w1 ⟨rfl, b1⟩
  have B1 := Lib.hid b1
  clear b1
  go_wp2_with fail
  refine (HD.out _).mono ?_
  rintro e w2 ⟨a, n, c, rfl, l2, c2, n2, b2⟩
  have B2 := Lib.hid (B1.out.trans (b2.mono B1.out.size))
  have L2 := Lib.hid l2
  have N2 := Lib.hid n2
  rw [l2] at lx
  clear l2 n2 b2 B1
  go_wp2_with fail
  refine (HL0.out _).mono ?_
  rintro e w3 ⟨a3, n3, c3, rfl, l3, cc3, m3, b3⟩
  have B3 := Lib.hid (B2.out.trans (b3.mono B2.out.size))
  have N3 := Lib.hid (N2.out.below b3)
  have hl3 : n3 ≤ 1000 := by rw [← l3]; exact Nat.le_trans ((decN_len_le _ 20 (by omega)).2 (by decide)) (by omega)
  have hg := greater_any a a3 n n3 c c3 (decN x.natAbs) (decN (9223372036854775807 : Int).natAbs) w3 L2.out l3 (by omega) (by omega) (decN_lt _) (decN_lt _) N3.out m3
  rw [dval_decN, dval_decN] at hg
  rw [show (9223372036854775807 : Int).natAbs = 9223372036854775807 from rfl, cmpN_gt hbig] at hg
  have HG := Lib.hid hg
  clear hg l3 m3 b3 hbig hx0
  go_wp2_with fail
  refine HG.out.mono ?_
  rintro e w' ⟨rfl, rfl⟩
  go_wp2_with fail
  go_ret2
  exact ⟨rfl, B3.out⟩

set_option maxHeartbeats 2000000 in
set_option maxRecDepth 100000 in
theorem rto_pin (s : ByteArray) (x : Int) (w : World) (hs : s.size ≤ 100000) (hx : s.data.toList = txtZ x) (bx : bigZ x = false) (hx0 : 0 ≤ x) (hin : x.natAbs ≤ 9223372036854775807) :
    Calls Tryd.prog 30 #[.string s] w fun e w' => e = .returned (.tuple #[.int .i64 x, .int .i64 0]) ∧ Below w.heap.size w w' := by
  have HX : Hid (x = (x.natAbs : Int)) := (by omega : x = (x.natAbs : Int))
  have hc := rcheck_any s w (by omega)
  rw [hx, bothC bx] at hc
  have lx : (decN x.natAbs).length ≤ 1000 := by unfold bigZ at bx; simpa using bx
  have HC := Lib.hid hc
  have hd := fun W => digits_ok s x W (by omega) hx
  unfold DigOK at hd
  rw [show decide (x < 0) = false by simp; omega] at hd
  have HD := Lib.hid hd
  have HL0 := Lib.hid (fun W => rdigits1_ok ⟨#[57, 50, 50, 51, 51, 55, 50, 48, 51, 54, 56, 53, 52, 55, 55, 53, 56, 48, 55]⟩ 9223372036854775807 W (by decide) (rdZ_some (by decide)))
  clear hc hd hx bx
  go_enter Tryd.func30, Tryd.ntmps30
  go_wp2_with fail
  refine HC.out.mono ?_
  rintro e w1 ⟨rfl, b1⟩
  have B1 := Lib.hid b1
  clear b1
  go_wp2_with fail
  refine (HD.out _).mono ?_
  rintro e w2 ⟨a, n, c, rfl, l2, c2, n2, b2⟩
  have B2 := Lib.hid (B1.out.trans (b2.mono B1.out.size))
  have L2 := Lib.hid l2
  have N2 := Lib.hid n2
  rw [l2] at lx
  clear l2 n2 b2 B1
  go_wp2_with fail
  refine (HL0.out _).mono ?_
  rintro e w3 ⟨a3, n3, c3, rfl, l3, cc3, m3, b3⟩
  have B3 := Lib.hid (B2.out.trans (b3.mono B2.out.size))
  have N3 := Lib.hid (N2.out.below b3)
  have hl3 : n3 ≤ 1000 := by rw [← l3]; exact Nat.le_trans ((decN_len_le _ 20 (by omega)).2 (by decide)) (by omega)
  have hg := greater_any a a3 n n3 c c3 (decN x.natAbs) (decN (9223372036854775807 : Int).natAbs) w3 L2.out l3 (by omega) (by omega) (decN_lt _) (decN_lt _) N3.out m3
  rw [dval_decN, dval_decN] at hg
  obtain ⟨C, hC⟩ : ∃ C, C = cmpN x.natAbs (9223372036854775807 : Int).natAbs := ⟨_, rfl⟩
  rw [← hC] at hg
  have t1 : decide (0 < C) = false := by
    rw [hC]
    rcases Nat.lt_or_ge x.natAbs 9223372036854775807 with h | h
    · rw [show (9223372036854775807 : Int).natAbs = 9223372036854775807 from rfl, cmpN_lt h]; rfl
    · rw [show (9223372036854775807 : Int).natAbs = 9223372036854775807 from rfl, cmpN_eq (by omega)]; rfl
  have HG := Lib.hid hg
  have HIN := Lib.hid hin
  clear hg hC l3 m3 b3 hin hx0
  go_wp2_with fail
  refine HG.out.mono ?_
  rintro e w' ⟨rfl, rfl⟩
  go_wp2_with fail
  go_loop [9, 10] (fun nv iv => ∃ k : Nat, k ≤ n ∧ nv = .int .i64 ((dval ((decN x.natAbs).drop k) : Int)) ∧ iv = .int .i64 ((k : Int) - 1)) (fun _ i => (intOf i + 1).toNat)
  case atStart => exact ⟨n, Nat.le_refl _, by rw [List.drop_of_length_le (by rw [L2.out]; exact Nat.le_refl _)]; rfl, rfl⟩
  case round =>
    obtain ⟨k, hk, rfl, rfl⟩ := hrel
    by_cases hk0 : 1 ≤ k
    · obtain ⟨j, rfl⟩ : ∃ j, k = j + 1 := ⟨k - 1, by omega⟩
      obtain ⟨g, o, rfl, hg, hc⟩ := N3.out j (by rw [L2.out]; omega)
      obtain ⟨y, hy⟩ : ∃ y, y = (decN x.natAbs).getD j 0 := ⟨_, rfl⟩
      have hdr := dval_drop (decN x.natAbs) j
      have hle := dval_drop_le (decN x.natAbs) j
      rw [dval_decN] at hle
      rw [← hy] at hc hdr
      obtain ⟨V, hV⟩ : ∃ V, V = dval ((decN x.natAbs).drop (j + 1)) := ⟨_, rfl⟩
      obtain ⟨V2, hV2⟩ : ∃ V2, V2 = dval ((decN x.natAbs).drop j) := ⟨_, rfl⟩
      rw [← hV, ← hV2] at hdr
      rw [← hV2] at hle
      rw [← hV]
      have hb2 : V2 ≤ 9223372036854775807 := by have := HIN.out; omega
      have w1 : 10 * ((V : Int)) + (y : Int) = (V2 : Int) := by omega
      have HV2 := Lib.hid hV2
      rw [show (((j + 1 : Nat) : Int) - 1) = (j : Int) by omega]
      clear hy hle hV hV2
      go_wp2_with fail
      go_round
      case rel => exact ⟨j, by omega, by rw [← HV2.out]; congr 1; omega, rfl⟩
      case measure => simp [intOf] <;> omega
    · obtain rfl : k = 0 := by omega
      rw [List.drop_zero, dval_decN, ← HX.out]
      go_wp2_with fail
      go_ret2
      exact ⟨rfl, B3.out⟩

set_option maxHeartbeats 2000000 in
set_option maxRecDepth 100000 in
theorem rto_nbig (s : ByteArray) (x : Int) (w : World) (hs : s.size ≤ 100000) (hx : s.data.toList = txtZ x) (bx : bigZ x = false) (hx0 : x < 0) (hbig : 9223372036854775808 < x.natAbs) :
    Calls Tryd.prog 30 #[.string s] w fun e w' => e = .returned (.tuple #[.int .i64 0, .int .i64 14]) ∧ Below w.heap.size w w' := by
  have hc := rcheck_any s w (by omega)
  rw [hx, bothC bx] at hc
  have lx : (decN x.natAbs).length ≤ 1000 := by unfold bigZ at bx; simpa using bx
  have HC := Lib.hid hc
  have hd := fun W => digits_ok s x W (by omega) hx
  unfold DigOK at hd
  rw [show decide (x < 0) = true by simp; omega] at hd
  have HD := Lib.hid hd
  have HL0 := Lib.hid (fun W => rdigits1_ok ⟨#[57, 50, 50, 51, 51, 55, 50, 48, 51, 54, 56, 53, 52, 55, 55, 53, 56, 48, 55]⟩ 9223372036854775807 W (by decide) (rdZ_some (by decide)))
  have HL1 := Lib.hid (fun W => rdigits1_ok ⟨#[57, 50, 50, 51, 51, 55, 50, 48, 51, 54, 56, 53, 52, 55, 55, 53, 56, 48, 56]⟩ 9223372036854775808 W (by decide) (rdZ_some (by decide)))
  clear hc hd hx bx
  go_enter Tryd.func30, Tryd.ntmps30
  go_wp2_with fail
  refine HC.out.mono ?_
  rintro e w1 ⟨rfl, b1⟩
  have B1 := Lib.hid b1
  clear b1
  go_wp2_with fail
  refine (HD.out _).mono ?_
  rintro e w2 ⟨a, n, c, rfl, l2, c2, n2, b2⟩
  have B2 := Lib.hid (B1.out.trans (b2.mono B1.out.size))
  have L2 := Lib.hid l2
  have N2 := Lib.hid n2
  rw [l2] at lx
  clear l2 n2 b2 B1
  go_wp2_with fail
  refine (HL0.out _).mono ?_
  rintro e w3 ⟨a3, n3, c3, rfl, l3, cc3, m3, b3⟩
  have B3 := Lib.hid (B2.out.trans (b3.mono B2.out.size))
  have N3 := Lib.hid (N2.out.below b3)
  clear l3 m3 b3 cc3
  go_wp2_with fail
  refine (HL1.out _).mono ?_
  rintro e w4 ⟨a4, n4, c4, rfl, l4, cc4, m4, b4⟩
  have B4 := Lib.hid (B3.out.trans (b4.mono B3.out.size))
  have N4 := Lib.hid (N3.out.below b4)
  have hl4 : n4 ≤ 1000 := by rw [← l4]; exact Nat.le_trans ((decN_len_le _ 20 (by omega)).2 (by decide)) (by omega)
  have hg := greater_any a a4 n n4 c c4 (decN x.natAbs) (decN (9223372036854775808 : Int).natAbs) w4 L2.out l4 (by omega) (by omega) (decN_lt _) (decN_lt _) N4.out m4
  rw [dval_decN, dval_decN] at hg
  rw [show (9223372036854775808 : Int).natAbs = 9223372036854775808 from rfl, cmpN_gt hbig] at hg
  have HG := Lib.hid hg
  clear hg l4 m4 b4 hbig hx0
  go_wp2_with fail
  refine HG.out.mono ?_
  rintro e w' ⟨rfl, rfl⟩
  go_wp2_with fail
  go_ret2
  exact ⟨rfl, B4.out⟩

set_option maxHeartbeats 2000000 in
set_option maxRecDepth 100000 in
theorem rto_nin (s : ByteArray) (x : Int) (w : World) (hs : s.size ≤ 100000) (hx : s.data.toList = txtZ x) (bx : bigZ x = false) (hx0 : x < 0) (hin : x.natAbs ≤ 9223372036854775808) :
    Calls Tryd.prog 30 #[.string s] w fun e w' => e = .returned (.tuple #[.int .i64 x, .int .i64 0]) ∧ Below w.heap.size w w' := by
  have HX : Hid (x = -(x.natAbs : Int)) := (by omega : x = -(x.natAbs : Int))
  have hc := rcheck_any s w (by omega)
  rw [hx, bothC bx] at hc
  have lx : (decN x.natAbs).length ≤ 1000 := by unfold bigZ at bx; simpa using bx
  have HC := Lib.hid hc
  have hd := fun W => digits_ok s x W (by omega) hx
  unfold DigOK at hd
  rw [show decide (x < 0) = true by simp; omega] at hd
  have HD := Lib.hid hd
  have HL0 := Lib.hid (fun W => rdigits1_ok ⟨#[57, 50, 50, 51, 51, 55, 50, 48, 51, 54, 56, 53, 52, 55, 55, 53, 56, 48, 55]⟩ 9223372036854775807 W (by decide) (rdZ_some (by decide)))
  have HL1 := Lib.hid (fun W => rdigits1_ok ⟨#[57, 50, 50, 51, 51, 55, 50, 48, 51, 54, 56, 53, 52, 55, 55, 53, 56, 48, 56]⟩ 9223372036854775808 W (by decide) (rdZ_some (by decide)))
  clear hc hd hx bx
  go_enter Tryd.func30, Tryd.ntmps30
  go_wp2_with fail
  refine HC.out.mono ?_
  rintro e w1 ⟨rfl, b1⟩
  have B1 := Lib.hid b1
  clear b1
  go_wp2_with fail
  refine (HD.out _).mono ?_
  rintro e w2 ⟨a, n, c, rfl, l2, c2, n2, b2⟩
  have B2 := Lib.hid (B1.out.trans (b2.mono B1.out.size))
  have L2 := Lib.hid l2
  have N2 := Lib.hid n2
  rw [l2] at lx
  clear l2 n2 b2 B1
  go_wp2_with fail
  refine (HL0.out _).mono ?_
  rintro e w3 ⟨a3, n3, c3, rfl, l3, cc3, m3, b3⟩
  have B3 := Lib.hid (B2.out.trans (b3.mono B2.out.size))
  have N3 := Lib.hid (N2.out.below b3)
  clear l3 m3 b3 cc3
  go_wp2_with fail
  refine (HL1.out _).mono ?_
  rintro e w4 ⟨a4, n4, c4, rfl, l4, cc4, m4, b4⟩
  have B4 := Lib.hid (B3.out.trans (b4.mono B3.out.size))
  have N4 := Lib.hid (N3.out.below b4)
  have hl4 : n4 ≤ 1000 := by rw [← l4]; exact Nat.le_trans ((decN_len_le _ 20 (by omega)).2 (by decide)) (by omega)
  have hg := greater_any a a4 n n4 c c4 (decN x.natAbs) (decN (9223372036854775808 : Int).natAbs) w4 L2.out l4 (by omega) (by omega) (decN_lt _) (decN_lt _) N4.out m4
  rw [dval_decN, dval_decN] at hg
  obtain ⟨C, hC⟩ : ∃ C, C = cmpN x.natAbs (9223372036854775808 : Int).natAbs := ⟨_, rfl⟩
  rw [← hC] at hg
  have t1 : decide (0 < C) = false := by
    rw [hC]
    rcases Nat.lt_or_ge x.natAbs 9223372036854775808 with h | h
    · rw [show (9223372036854775808 : Int).natAbs = 9223372036854775808 from rfl, cmpN_lt h]; rfl
    · rw [show (9223372036854775808 : Int).natAbs = 9223372036854775808 from rfl, cmpN_eq (by omega)]; rfl
  have HG := Lib.hid hg
  have HIN := Lib.hid hin
  clear hg hC l4 m4 b4 hin hx0
  go_wp2_with fail
  refine HG.out.mono ?_
  rintro e w' ⟨rfl, rfl⟩
  go_wp2_with fail
  go_loop [9, 10] (fun nv iv => ∃ k : Nat, k ≤ n ∧ nv = .int .i64 (-(dval ((decN x.natAbs).drop k) : Int)) ∧ iv = .int .i64 ((k : Int) - 1)) (fun _ i => (intOf i + 1).toNat)
  case atStart => exact ⟨n, Nat.le_refl _, by rw [List.drop_of_length_le (by rw [L2.out]; exact Nat.le_refl _)]; rfl, rfl⟩
  case round =>
    obtain ⟨k, hk, rfl, rfl⟩ := hrel
    by_cases hk0 : 1 ≤ k
    · obtain ⟨j, rfl⟩ : ∃ j, k = j + 1 := ⟨k - 1, by omega⟩
      obtain ⟨g, o, rfl, hg, hc⟩ := N4.out j (by rw [L2.out]; omega)
      obtain ⟨y, hy⟩ : ∃ y, y = (decN x.natAbs).getD j 0 := ⟨_, rfl⟩
      have hdr := dval_drop (decN x.natAbs) j
      have hle := dval_drop_le (decN x.natAbs) j
      rw [dval_decN] at hle
      rw [← hy] at hc hdr
      obtain ⟨V, hV⟩ : ∃ V, V = dval ((decN x.natAbs).drop (j + 1)) := ⟨_, rfl⟩
      obtain ⟨V2, hV2⟩ : ∃ V2, V2 = dval ((decN x.natAbs).drop j) := ⟨_, rfl⟩
      rw [← hV, ← hV2] at hdr
      rw [← hV2] at hle
      rw [← hV]
      have hb2 : V2 ≤ 9223372036854775808 := by have := HIN.out; omega
      have w1 : 10 * (-(V : Int)) - (y : Int) = -(V2 : Int) := by omega
      have HV2 := Lib.hid hV2
      rw [show (((j + 1 : Nat) : Int) - 1) = (j : Int) by omega]
      clear hy hle hV hV2
      go_wp2_with fail
      go_round
      case rel => exact ⟨j, by omega, by rw [← HV2.out]; congr 1; omega, rfl⟩
      case measure => simp [intOf] <;> omega
    · obtain rfl : k = 0 := by omega
      rw [List.drop_zero, dval_decN, ← HX.out]
      go_wp2_with fail
      go_ret2
      exact ⟨rfl, B4.out⟩

theorem rto_ok (s : ByteArray) (x : Int) (w : World) (hs : s.size ≤ 100000) (hx : s.data.toList = txtZ x) (bx : bigZ x = false) :
    Calls Tryd.prog 30 #[.string s] w (ToPost w x) := by
  unfold ToPost
  by_cases h0 : x < 0
  · by_cases h1 : x.natAbs ≤ 9223372036854775808
    · rw [toR_in (by omega) (by omega)]; exact rto_nin s x w hs hx bx h0 h1
    · rw [toR_out (by omega)]; exact rto_nbig s x w hs hx bx h0 (by omega)
  · by_cases h1 : x.natAbs ≤ 9223372036854775807
    · rw [toR_in (by omega) (by omega)]; exact rto_pin s x w hs hx bx (by omega) h1
    · rw [toR_out (by omega)]; exact rto_pbig s x w hs hx bx (by omega) (by omega)

end Go.Proofs.YtnikhbdjlipcbaaDoor
