/-
  The program's Check of rationals. No condition.
-/
import Derived.Test.YtnmiiimbjojcmaaNf
import Derived.Test.YtnmiiimbjojcmaaShelfb
import Derived.RegionTactic
namespace Go.Proofs.Ytnmiiimbjojcmaa
open Go.RowKit Go.Shelf

theorem idx_slN (l : List UInt8) : (Lib.indexByte l 47 = -1 ∧ slN l = l.length) ∨ (Lib.indexByte l 47 = (slN l : Int) ∧ slN l < l.length) := by
  have h0 := Lib.indexByte_ge l 47
  by_cases h : Lib.indexByte l 47 = -1
  · exact .inl ⟨h, slN_none fun j _ => Lib.indexByte_none h j⟩
  · right
    obtain ⟨o, ho⟩ : ∃ o : Nat, Lib.indexByte l 47 = o := ⟨(Lib.indexByte l 47).toNat, by omega⟩
    obtain ⟨h1, h2⟩ := Lib.indexByte_some ho
    have hl : o < l.length := by
      rcases Nat.lt_or_ge o l.length with h | h
      · exact h
      · rw [List.getElem?_eq_none h] at h1; cases h1
    have := slN_at hl h2 h1
    rw [this]; exact ⟨ho, hl⟩
/-- The two parts and whether there are two. -/
def CutPost (w : World) (n d : ByteArray) (b : Bool) (e : Ending) (w' : World) : Prop := e = .returned (.tuple #[.string n, .string d, .bool b]) ∧ Below w.heap.size w w'

set_option maxHeartbeats 1000000 in
set_option maxRecDepth 100000 in
theorem scut_none (s : ByteArray) (w : World) (h : slN s.data.toList = s.data.toList.length) :
    Calls Try.prog 58 #[.string s, .string ⟨#[47]⟩] w (CutPost w s ByteArray.empty false) := by
  have hi := Try.stringslite_Index_one s 47 w
  rcases idx_slN s.data.toList with ⟨e, _⟩ | ⟨_, e⟩
  · rw [e] at hi
    have HI := Lib.hid hi
    clear hi e h
    go_enter Try.func58, Try.ntmps58
    go_wp2_with fail
    refine HI.out.mono ?_
    rintro e w' ⟨rfl, rfl⟩
    go_wp2_with fail
    go_ret3
    exact ⟨rfl, Below.refl _ _⟩
  · omega

set_option maxHeartbeats 1000000 in
set_option maxRecDepth 100000 in
theorem scut_at (s : ByteArray) (k : Nat) (w : World) (hs : s.size ≤ 1000000) (h : slN s.data.toList = k) (hk : k < s.size) :
    Calls Try.prog 58 #[.string s, .string ⟨#[47]⟩] w (CutPost w (s.extract 0 k) (s.extract (k + 1) s.size) true) := by
  have hi := Try.stringslite_Index_one s 47 w
  rcases idx_slN s.data.toList with ⟨_, e⟩ | ⟨e, _⟩
  · rw [data_len] at e; omega
  · rw [e, h] at hi
    have HI := Lib.hid hi
    clear hi e h
    go_enter Try.func58, Try.ntmps58
    go_wp2_with fail
    refine HI.out.mono ?_
    rintro e w' ⟨rfl, rfl⟩
    go_wp2_with fail
    go_region
    all_goals
      go_wp2_with fail
      go_ret3
      exact ⟨rfl, (Below.refl _ _).drew⟩

set_option maxHeartbeats 1000000 in
set_option maxRecDepth 100000 in
theorem cut_of (s n d : ByteArray) (b : Bool) (w : World) (h : Calls Try.prog 58 #[.string s, .string ⟨#[47]⟩] w (CutPost w n d b)) :
    Calls Try.prog 44 #[.string s, .string ⟨#[47]⟩] w (CutPost w n d b) := by
  have HC := Lib.hid h
  clear h
  go_enter Try.func44, Try.ntmps44
  go_wp2_with fail
  refine HC.out.mono ?_
  rintro e w' ⟨rfl, b1⟩
  have B1 := Lib.hid b1
  clear b1
  go_wp2_with fail
  go_ret3
  exact ⟨rfl, B1.out⟩

set_option maxHeartbeats 1000000 in
set_option maxRecDepth 100000 in
theorem split_of (s n d : ByteArray) (b : Bool) (w : World) (h : Calls Try.prog 44 #[.string s, .string ⟨#[47]⟩] w (CutPost w n d b)) :
    Calls Try.prog 30 #[.string s] w (CutPost w n d b) := by
  have HC := Lib.hid h
  clear h
  go_enter Try.func30, Try.ntmps30
  go_wp2_with fail
  refine HC.out.mono ?_
  rintro e w' ⟨rfl, b1⟩
  have B1 := Lib.hid b1
  clear b1
  go_wp2_with fail
  go_ret3
  exact ⟨rfl, B1.out⟩

def frmZ (l : List UInt8) : Int := if chkZ l = 12 then 12 else 0
theorem chkZ_three (l : List UInt8) : chkZ l = 0 ∨ chkZ l = 12 ∨ chkZ l = 14 := by
  rcases chkZ_cases l with ⟨h, _⟩ | ⟨z, _, _, h⟩
  · exact .inr (.inl h)
  · rw [h]; split
    · exact .inr (.inr rfl)
    · exact .inl rfl

set_option maxHeartbeats 1000000 in
set_option maxRecDepth 100000 in
theorem form_any (s : ByteArray) (w : World) (hs : s.size ≤ 1000000) :
    Calls Try.prog 31 #[.string s] w fun e w' => e = .returned (.int .i64 (frmZ s.data.toList)) ∧ w = w' := by
  have hc := check_same s w hs
  unfold frmZ
  rcases chkZ_three s.data.toList with h | h | h <;> rw [h] at hc ⊢ <;> have HC := Lib.hid hc <;> clear hc h
  all_goals
    go_enter Try.func31, Try.ntmps31
    go_wp2_with fail
    refine HC.out.mono ?_
    rintro e w' ⟨rfl, rfl⟩
    go_wp2_with fail
    go_ret
    exact ⟨rfl, rfl⟩

set_option maxHeartbeats 1000000 in
set_option maxRecDepth 100000 in
theorem qc_n (s n d : ByteArray) (b : Bool) (FN : Hid (∀ W, Calls Try.prog 31 #[.string n] W fun e w' => e = .returned (.int .i64 12) ∧ W = w'))  (w : World)
    (HW : Hid (Calls Try.prog 30 #[.string s] w (CutPost w n d b))) :
    Calls Try.prog 16 #[.string s] w (ErrPost w 12) := by
  go_enter Try.func16, Try.ntmps16
  go_wp2_with fail
  refine HW.out.mono ?_
  rintro e w1 ⟨rfl, b1⟩
  have B := Lib.hid b1
  clear b1
  go_wp2_with fail
  refine (FN.out _).mono ?_
  rintro e w' ⟨rfl, rfl⟩
  go_wp2_with fail
  go_ret
  exact ⟨rfl, B.out⟩

set_option maxHeartbeats 1000000 in
set_option maxRecDepth 100000 in
theorem qc_i14 (s n d : ByteArray) (FN : Hid (∀ W, Calls Try.prog 31 #[.string n] W fun e w' => e = .returned (.int .i64 0) ∧ W = w')) (CN : Hid (∀ W, Calls Try.prog 32 #[.string n] W fun e w' => e = .returned (.int .i64 14) ∧ W = w'))  (w : World)
    (HW : Hid (Calls Try.prog 30 #[.string s] w (CutPost w n d false))) :
    Calls Try.prog 16 #[.string s] w (ErrPost w 14) := by
  go_enter Try.func16, Try.ntmps16
  go_wp2_with fail
  refine HW.out.mono ?_
  rintro e w1 ⟨rfl, b1⟩
  have B := Lib.hid b1
  clear b1
  go_wp2_with fail
  refine (FN.out _).mono ?_
  rintro e w' ⟨rfl, rfl⟩
  go_wp2_with fail
  refine (CN.out _).mono ?_
  rintro e w' ⟨rfl, rfl⟩
  go_wp2_with fail
  go_ret
  exact ⟨rfl, B.out⟩

set_option maxHeartbeats 1000000 in
set_option maxRecDepth 100000 in
theorem qc_i0 (s n d : ByteArray) (FN : Hid (∀ W, Calls Try.prog 31 #[.string n] W fun e w' => e = .returned (.int .i64 0) ∧ W = w')) (CN : Hid (∀ W, Calls Try.prog 32 #[.string n] W fun e w' => e = .returned (.int .i64 0) ∧ W = w'))  (w : World)
    (HW : Hid (Calls Try.prog 30 #[.string s] w (CutPost w n d false))) :
    Calls Try.prog 16 #[.string s] w (ErrPost w 0) := by
  go_enter Try.func16, Try.ntmps16
  go_wp2_with fail
  refine HW.out.mono ?_
  rintro e w1 ⟨rfl, b1⟩
  have B := Lib.hid b1
  clear b1
  go_wp2_with fail
  refine (FN.out _).mono ?_
  rintro e w' ⟨rfl, rfl⟩
  go_wp2_with fail
  refine (CN.out _).mono ?_
  rintro e w' ⟨rfl, rfl⟩
  go_wp2_with fail
  go_ret
  exact ⟨rfl, B.out⟩

set_option maxHeartbeats 1000000 in
set_option maxRecDepth 100000 in
theorem qc_d (s n d : ByteArray) (FN : Hid (∀ W, Calls Try.prog 31 #[.string n] W fun e w' => e = .returned (.int .i64 0) ∧ W = w')) (FD : Hid (∀ W, Calls Try.prog 31 #[.string d] W fun e w' => e = .returned (.int .i64 12) ∧ W = w'))  (w : World)
    (HW : Hid (Calls Try.prog 30 #[.string s] w (CutPost w n d true))) :
    Calls Try.prog 16 #[.string s] w (ErrPost w 12) := by
  go_enter Try.func16, Try.ntmps16
  go_wp2_with fail
  refine HW.out.mono ?_
  rintro e w1 ⟨rfl, b1⟩
  have B := Lib.hid b1
  clear b1
  go_wp2_with fail
  refine (FN.out _).mono ?_
  rintro e w' ⟨rfl, rfl⟩
  go_wp2_with fail
  refine (FD.out _).mono ?_
  rintro e w' ⟨rfl, rfl⟩
  go_wp2_with fail
  go_ret
  exact ⟨rfl, B.out⟩

set_option maxHeartbeats 1000000 in
set_option maxRecDepth 100000 in
theorem qc_m (s n d : ByteArray) (FN : Hid (∀ W, Calls Try.prog 31 #[.string n] W fun e w' => e = .returned (.int .i64 0) ∧ W = w')) (FD : Hid (∀ W, Calls Try.prog 31 #[.string d] W fun e w' => e = .returned (.int .i64 0) ∧ W = w')) (h0 : 0 < d.size) (hm : ((d[0].toNat : Int) == 45) = true)  (w : World)
    (HW : Hid (Calls Try.prog 30 #[.string s] w (CutPost w n d true))) :
    Calls Try.prog 16 #[.string s] w (ErrPost w 12) := by
  go_enter Try.func16, Try.ntmps16
  go_wp2_with fail
  refine HW.out.mono ?_
  rintro e w1 ⟨rfl, b1⟩
  have B := Lib.hid b1
  clear b1
  go_wp2_with fail
  refine (FN.out _).mono ?_
  rintro e w' ⟨rfl, rfl⟩
  go_wp2_with fail
  refine (FD.out _).mono ?_
  rintro e w' ⟨rfl, rfl⟩
  go_wp2_with fail
  go_ret
  exact ⟨rfl, B.out⟩

set_option maxHeartbeats 1000000 in
set_option maxRecDepth 100000 in
theorem qc_0 (s n d : ByteArray) (FN : Hid (∀ W, Calls Try.prog 31 #[.string n] W fun e w' => e = .returned (.int .i64 0) ∧ W = w')) (FD : Hid (∀ W, Calls Try.prog 31 #[.string d] W fun e w' => e = .returned (.int .i64 0) ∧ W = w')) (h0 : 0 < d.size) (hm : ((d[0].toNat : Int) == 45) = false) (d0 : (d.toList == [48]) = true)  (w : World)
    (HW : Hid (Calls Try.prog 30 #[.string s] w (CutPost w n d true))) :
    Calls Try.prog 16 #[.string s] w (ErrPost w 12) := by
  go_enter Try.func16, Try.ntmps16
  go_wp2_with fail
  refine HW.out.mono ?_
  rintro e w1 ⟨rfl, b1⟩
  have B := Lib.hid b1
  clear b1
  go_wp2_with fail
  refine (FN.out _).mono ?_
  rintro e w' ⟨rfl, rfl⟩
  go_wp2_with fail
  refine (FD.out _).mono ?_
  rintro e w' ⟨rfl, rfl⟩
  go_wp2_with fail
  go_ret
  exact ⟨rfl, B.out⟩

set_option maxHeartbeats 1000000 in
set_option maxRecDepth 100000 in
theorem qc_1 (s n d : ByteArray) (FN : Hid (∀ W, Calls Try.prog 31 #[.string n] W fun e w' => e = .returned (.int .i64 0) ∧ W = w')) (FD : Hid (∀ W, Calls Try.prog 31 #[.string d] W fun e w' => e = .returned (.int .i64 0) ∧ W = w')) (h0 : 0 < d.size) (hm : ((d[0].toNat : Int) == 45) = false) (d0 : (d.toList == [48]) = false) (d1 : (d.toList == [49]) = true)  (w : World)
    (HW : Hid (Calls Try.prog 30 #[.string s] w (CutPost w n d true))) :
    Calls Try.prog 16 #[.string s] w (ErrPost w 12) := by
  go_enter Try.func16, Try.ntmps16
  go_wp2_with fail
  refine HW.out.mono ?_
  rintro e w1 ⟨rfl, b1⟩
  have B := Lib.hid b1
  clear b1
  go_wp2_with fail
  refine (FN.out _).mono ?_
  rintro e w' ⟨rfl, rfl⟩
  go_wp2_with fail
  refine (FD.out _).mono ?_
  rintro e w' ⟨rfl, rfl⟩
  go_wp2_with fail
  go_ret
  exact ⟨rfl, B.out⟩

set_option maxHeartbeats 1000000 in
set_option maxRecDepth 100000 in
theorem qc_b1 (s n d : ByteArray) (FN : Hid (∀ W, Calls Try.prog 31 #[.string n] W fun e w' => e = .returned (.int .i64 0) ∧ W = w')) (FD : Hid (∀ W, Calls Try.prog 31 #[.string d] W fun e w' => e = .returned (.int .i64 0) ∧ W = w')) (h0 : 0 < d.size) (hm : ((d[0].toNat : Int) == 45) = false) (d0 : (d.toList == [48]) = false) (d1 : (d.toList == [49]) = false) (CN : Hid (∀ W, Calls Try.prog 32 #[.string n] W fun e w' => e = .returned (.int .i64 14) ∧ W = w'))  (w : World)
    (HW : Hid (Calls Try.prog 30 #[.string s] w (CutPost w n d true))) :
    Calls Try.prog 16 #[.string s] w (ErrPost w 14) := by
  go_enter Try.func16, Try.ntmps16
  go_wp2_with fail
  refine HW.out.mono ?_
  rintro e w1 ⟨rfl, b1⟩
  have B := Lib.hid b1
  clear b1
  go_wp2_with fail
  refine (FN.out _).mono ?_
  rintro e w' ⟨rfl, rfl⟩
  go_wp2_with fail
  refine (FD.out _).mono ?_
  rintro e w' ⟨rfl, rfl⟩
  go_wp2_with fail
  refine (CN.out _).mono ?_
  rintro e w' ⟨rfl, rfl⟩
  go_wp2_with fail
  go_ret
  exact ⟨rfl, B.out⟩

set_option maxHeartbeats 1000000 in
set_option maxRecDepth 100000 in
theorem qc_b2 (s n d : ByteArray) (FN : Hid (∀ W, Calls Try.prog 31 #[.string n] W fun e w' => e = .returned (.int .i64 0) ∧ W = w')) (FD : Hid (∀ W, Calls Try.prog 31 #[.string d] W fun e w' => e = .returned (.int .i64 0) ∧ W = w')) (h0 : 0 < d.size) (hm : ((d[0].toNat : Int) == 45) = false) (d0 : (d.toList == [48]) = false) (d1 : (d.toList == [49]) = false) (CN : Hid (∀ W, Calls Try.prog 32 #[.string n] W fun e w' => e = .returned (.int .i64 0) ∧ W = w')) (CD : Hid (∀ W, Calls Try.prog 32 #[.string d] W fun e w' => e = .returned (.int .i64 14) ∧ W = w'))  (w : World)
    (HW : Hid (Calls Try.prog 30 #[.string s] w (CutPost w n d true))) :
    Calls Try.prog 16 #[.string s] w (ErrPost w 14) := by
  go_enter Try.func16, Try.ntmps16
  go_wp2_with fail
  refine HW.out.mono ?_
  rintro e w1 ⟨rfl, b1⟩
  have B := Lib.hid b1
  clear b1
  go_wp2_with fail
  refine (FN.out _).mono ?_
  rintro e w' ⟨rfl, rfl⟩
  go_wp2_with fail
  refine (FD.out _).mono ?_
  rintro e w' ⟨rfl, rfl⟩
  go_wp2_with fail
  refine (CN.out _).mono ?_
  rintro e w' ⟨rfl, rfl⟩
  go_wp2_with fail
  refine (CD.out _).mono ?_
  rintro e w' ⟨rfl, rfl⟩
  go_wp2_with fail
  go_ret
  exact ⟨rfl, B.out⟩

set_option maxHeartbeats 1000000 in
set_option maxRecDepth 100000 in
theorem qc_gno (s n d : ByteArray) (FN : Hid (∀ W, Calls Try.prog 31 #[.string n] W fun e w' => e = .returned (.int .i64 0) ∧ W = w')) (FD : Hid (∀ W, Calls Try.prog 31 #[.string d] W fun e w' => e = .returned (.int .i64 0) ∧ W = w')) (h0 : 0 < d.size) (hm : ((d[0].toNat : Int) == 45) = false) (d0 : (d.toList == [48]) = false) (d1 : (d.toList == [49]) = false) (CN : Hid (∀ W, Calls Try.prog 32 #[.string n] W fun e w' => e = .returned (.int .i64 0) ∧ W = w')) (CD : Hid (∀ W, Calls Try.prog 32 #[.string d] W fun e w' => e = .returned (.int .i64 0) ∧ W = w')) (g : ByteArray) (HG : Hid (∀ W, Calls Try.prog 33 #[.string n, .string d] W (GPost W g))) (hg : (g.toList == [49]) = false)  (w : World)
    (HW : Hid (Calls Try.prog 30 #[.string s] w (CutPost w n d true))) :
    Calls Try.prog 16 #[.string s] w (ErrPost w 12) := by
  go_enter Try.func16, Try.ntmps16
  go_wp2_with fail
  refine HW.out.mono ?_
  rintro e w1 ⟨rfl, b1⟩
  have B := Lib.hid b1
  clear b1
  go_wp2_with fail
  refine (FN.out _).mono ?_
  rintro e w' ⟨rfl, rfl⟩
  go_wp2_with fail
  refine (FD.out _).mono ?_
  rintro e w' ⟨rfl, rfl⟩
  go_wp2_with fail
  refine (CN.out _).mono ?_
  rintro e w' ⟨rfl, rfl⟩
  go_wp2_with fail
  refine (CD.out _).mono ?_
  rintro e w' ⟨rfl, rfl⟩
  go_wp2_with fail
  refine (HG.out _).mono ?_
  rintro e w4 ⟨rfl, b4⟩
  have B4 := Lib.hid (B.out.trans (b4.mono B.out.size))
  clear b4
  go_wp2_with fail
  go_ret
  exact ⟨rfl, B4.out⟩

set_option maxHeartbeats 1000000 in
set_option maxRecDepth 100000 in
theorem qc_gyes (s n d : ByteArray) (FN : Hid (∀ W, Calls Try.prog 31 #[.string n] W fun e w' => e = .returned (.int .i64 0) ∧ W = w')) (FD : Hid (∀ W, Calls Try.prog 31 #[.string d] W fun e w' => e = .returned (.int .i64 0) ∧ W = w')) (h0 : 0 < d.size) (hm : ((d[0].toNat : Int) == 45) = false) (d0 : (d.toList == [48]) = false) (d1 : (d.toList == [49]) = false) (CN : Hid (∀ W, Calls Try.prog 32 #[.string n] W fun e w' => e = .returned (.int .i64 0) ∧ W = w')) (CD : Hid (∀ W, Calls Try.prog 32 #[.string d] W fun e w' => e = .returned (.int .i64 0) ∧ W = w')) (g : ByteArray) (HG : Hid (∀ W, Calls Try.prog 33 #[.string n, .string d] W (GPost W g))) (hg : (g.toList == [49]) = true)  (w : World)
    (HW : Hid (Calls Try.prog 30 #[.string s] w (CutPost w n d true))) :
    Calls Try.prog 16 #[.string s] w (ErrPost w 0) := by
  go_enter Try.func16, Try.ntmps16
  go_wp2_with fail
  refine HW.out.mono ?_
  rintro e w1 ⟨rfl, b1⟩
  have B := Lib.hid b1
  clear b1
  go_wp2_with fail
  refine (FN.out _).mono ?_
  rintro e w' ⟨rfl, rfl⟩
  go_wp2_with fail
  refine (FD.out _).mono ?_
  rintro e w' ⟨rfl, rfl⟩
  go_wp2_with fail
  refine (CN.out _).mono ?_
  rintro e w' ⟨rfl, rfl⟩
  go_wp2_with fail
  refine (CD.out _).mono ?_
  rintro e w' ⟨rfl, rfl⟩
  go_wp2_with fail
  refine (HG.out _).mono ?_
  rintro e w4 ⟨rfl, b4⟩
  have B4 := Lib.hid (B.out.trans (b4.mono B.out.size))
  clear b4
  go_wp2_with fail
  go_ret
  exact ⟨rfl, B4.out⟩

end Go.Proofs.Ytnmiiimbjojcmaa
