/-
  The reference's Negative, digits, Of of integers, by value. No condition. The reference's To, by value. No condition.
-/
import Derived.Test.YtnmiiimbjojcmaaGreatDoorYc
import Derived.Test.YtnmiiimbjojcmaaGreatDoorVr
namespace Go.Proofs.YtnmiiimbjojcmaaGreatDoor
open Go.RowKit

/-- The digits alone. -/
def DgsOK (w : World) (V : Nat) (e : Ending) (w' : World) : Prop :=
  ∃ a n c, e = .returned (.slice a n c) ∧ (decN V).length = n ∧ n ≤ c ∧ Nums .i64 w' a (decN V) ∧ Below w.heap.size w w'
set_option maxHeartbeats 2000000 in
set_option maxRecDepth 100000 in
theorem rneg_ok (s : ByteArray) (z : Int) (w : World) (hs : s.size ≤ 100000) (h : s.data.toList = txtZ z) : Calls Tryz.prog 94 #[.string s] w (StrPost w (txtZ (-z))) := by
  have hd := digits_ok s z w (by omega) h
  have hl : (decN z.natAbs).length ≤ 100001 := by
    have h1 : (txtZ z).length ≤ 100000 := by rw [← h, data_len]; exact hs
    unfold txtZ at h1
    split at h1
    · rw [List.length_cons, txtN_len] at h1; omega
    · rw [txtN_len] at h1; omega
  obtain ⟨nz, hnz⟩ : ∃ nz, nz = decide (z < 0) := ⟨_, rfl⟩
  have hz : (if (!nz) = true then -(z.natAbs : Int) else (z.natAbs : Int)) = -z := by
    by_cases h0 : z < 0
    · simp [hnz, h0]; omega
    · simp [hnz, h0]; omega
  unfold DigOK at hd
  rw [← hnz] at hd
  obtain ⟨Z, hZ⟩ : ∃ Z, Z = -z := ⟨_, rfl⟩
  rw [← hZ] at hz ⊢
  have HD := Lib.hid hd
  have HZ := Lib.hid hz
  clear hd hz hnz hZ h
  go_enter Tryz.func94, Tryz.ntmps94
  go_wp2_with fail
  refine HD.out.mono ?_
  rintro e w1 ⟨a, n, c, rfl, h1, h2, h3, b1⟩
  have ht := text_any a n c (decN z.natAbs) (!nz) w1 h1 (by omega) (decN_lt _) h3
  rw [dval_decN, HZ.out] at ht
  have HT := Lib.hid ht
  have B1 := Lib.hid b1
  clear h1 h3 b1 ht
  go_wp2_with fail
  refine HT.out.mono ?_
  rintro e w2 ⟨rfl, b2⟩
  have B2 := Lib.hid (B1.out.trans (b2.mono B1.out.size))
  clear b2
  go_wp2_with fail
  go_ret
  exact ⟨rfl, B2.out⟩

end Go.Proofs.YtnmiiimbjojcmaaGreatDoor

namespace Go.Proofs.YtnmiiimbjojcmaaGreatDoor
open Go.RowKit

theorem dval_drop_le (l : List Nat) (k : Nat) : dval (l.drop k) ≤ dval l := by
  have h := dval_split l k
  have h1 : dval (l.drop k) ≤ 10 ^ k * dval (l.drop k) := Nat.le_mul_of_pos_left _ (Nat.pow_pos (by omega))
  omega
theorem bothC {x : Int} (bx : bigZ x = false) : chkZ (txtZ x) = 0 := by rw [chkZ_txtZ, bx]; rfl
end Go.Proofs.YtnmiiimbjojcmaaGreatDoor
