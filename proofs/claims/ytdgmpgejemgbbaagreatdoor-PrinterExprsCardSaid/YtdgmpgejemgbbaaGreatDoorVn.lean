/-
  The program's Check of rationals. No condition. The program's Check of rationals, joined. No condition.
-/
import Derived.Test.YtdgmpgejemgbbaaGreatDoorVl
import Derived.Test.YtdgmpgejemgbbaaGreatDoorVm
import Derived.RegionTactic
namespace Go.Proofs.YtdgmpgejemgbbaaGreatDoor
open Go.RowKit Go.Shelf

theorem idx_slN (l : List UInt8) : (Lib.indexByte l 47 = -1 ∧ slN l = l.length) ∨ (Lib.indexByte l 47 = (slN l : Int) ∧ slN l < l.length) := by
  have h0 := Lib.indexByte_ge l 47
  by_cases h : Lib.indexByte l 47 = -1
  · exact .inl ⟨h, slN_none fun j _ => Lib.indexByte_none h j⟩
  · right
    obtain ⟨o, ho⟩ : ∃ o : Nat, Lib.indexByte l 47 = o := ⟨(Lib.indexByte l 47).toNat, by omega⟩
    obtain ⟨h1, h2⟩ := Lib.indexByte_some ho
    have hl : o < l.length := by
      rcases Nat.lt_or_ge o l.length with h | h
      · exact h
      · rw [List.getElem?_eq_none h] at h1; cases h1
    have := slN_at hl h2 h1
    rw [this]; exact ⟨ho, hl⟩
/-- The two parts and whether there are two. -/
def CutPost (w : World) (n d : ByteArray) (b : Bool) (e : Ending) (w' : World) : Prop := e = .returned (.tuple #[.string n, .string d, .bool b]) ∧ Below w.heap.size w w'

set_option maxHeartbeats 1000000 in
set_option maxRecDepth 100000 in
theorem scut_none (s : ByteArray) (w : World) (h : slN s.data.toList = s.data.toList.length) :
    Calls Tryz.prog 87 #[.string s, .string ⟨#[47]⟩] w (CutPost w s ByteArray.empty false) := by
  have hi := Tryz.stringslite_Index_one s 47 w
  rcases idx_slN s.data.toList with ⟨e, _⟩ | ⟨_, e⟩
  · rw [e] at hi
    have HI := Lib.hid hi
    clear hi e h
    go_enter Tryz.func87, Tryz.ntmps87
    go_wp2_with fail
    refine HI.out.mono ?_
    rintro e w' ⟨rfl, rfl⟩
    go_wp2_with fail
    go_ret3
    exact ⟨rfl, Below.refl _ _⟩
  · omega

set_option maxHeartbeats 1000000 in
set_option maxRecDepth 100000 in
theorem scut_at (s : ByteArray) (k : Nat) (w : World) (hs : s.size ≤ 1000000) (h : slN s.data.toList = k) (hk : k < s.size) :
    Calls Tryz.prog 87 #[.string s, .string ⟨#[47]⟩] w (CutPost w (s.extract 0 k) (s.extract (k + 1) s.size) true) := by
  have hi := Tryz.stringslite_Index_one s 47 w
  rcases idx_slN s.data.toList with ⟨_, e⟩ | ⟨e, _⟩
  · rw [data_len] at e; omega
  · rw [e, h] at hi
    have HI := Lib.hid hi
    clear hi e h
    go_enter Tryz.func87, Tryz.ntmps87
    go_wp2_with fail
    refine HI.out.mono ?_
    rintro e w' ⟨rfl, rfl⟩
    go_wp2_with fail
    go_region
    all_goals
      go_wp2_with fail
      go_ret3
      exact ⟨rfl, (Below.refl _ _).drew⟩

set_option maxHeartbeats 1000000 in
set_option maxRecDepth 100000 in
theorem cut_of (s n d : ByteArray) (b : Bool) (w : World) (h : Calls Tryz.prog 87 #[.string s, .string ⟨#[47]⟩] w (CutPost w n d b)) :
    Calls Tryz.prog 76 #[.string s, .string ⟨#[47]⟩] w (CutPost w n d b) := by
  have HC := Lib.hid h
  clear h
  go_enter Tryz.func76, Tryz.ntmps76
  go_wp2_with fail
  refine HC.out.mono ?_
  rintro e w' ⟨rfl, b1⟩
  have B1 := Lib.hid b1
  clear b1
  go_wp2_with fail
  go_ret3
  exact ⟨rfl, B1.out⟩

set_option maxHeartbeats 1000000 in
set_option maxRecDepth 100000 in
theorem split_of (s n d : ByteArray) (b : Bool) (w : World) (h : Calls Tryz.prog 76 #[.string s, .string ⟨#[47]⟩] w (CutPost w n d b)) :
    Calls Tryz.prog 62 #[.string s] w (CutPost w n d b) := by
  have HC := Lib.hid h
  clear h
  go_enter Tryz.func62, Tryz.ntmps62
  go_wp2_with fail
  refine HC.out.mono ?_
  rintro e w' ⟨rfl, b1⟩
  have B1 := Lib.hid b1
  clear b1
  go_wp2_with fail
  go_ret3
  exact ⟨rfl, B1.out⟩

def frmZ (l : List UInt8) : Int := if chkZ l = 12 then 12 else 0
theorem chkZ_three (l : List UInt8) : chkZ l = 0 ∨ chkZ l = 12 ∨ chkZ l = 14 := by
  rcases chkZ_cases l with ⟨h, _⟩ | ⟨z, _, _, h⟩
  · exact .inr (.inl h)
  · rw [h]; split
    · exact .inr (.inr rfl)
    · exact .inl rfl

set_option maxHeartbeats 1000000 in
set_option maxRecDepth 100000 in
theorem form_any (s : ByteArray) (w : World) (hs : s.size ≤ 1000000) :
    Calls Tryz.prog 63 #[.string s] w fun e w' => e = .returned (.int .i64 (frmZ s.data.toList)) ∧ w = w' := by
  have hc := check_same s w hs
  unfold frmZ
  rcases chkZ_three s.data.toList with h | h | h <;> rw [h] at hc ⊢ <;> have HC := Lib.hid hc <;> clear hc h
  all_goals
    go_enter Tryz.func63, Tryz.ntmps63
    go_wp2_with fail
    refine HC.out.mono ?_
    rintro e w' ⟨rfl, rfl⟩
    go_wp2_with fail
    go_ret
    exact ⟨rfl, rfl⟩

set_option maxHeartbeats 1000000 in
set_option maxRecDepth 100000 in
theorem qc_n (s n d : ByteArray) (b : Bool) (FN : Hid (∀ W, Calls Tryz.prog 63 #[.string n] W fun e w' => e = .returned (.int .i64 12) ∧ W = w'))  (w : World)
    (HW : Hid (Calls Tryz.prog 62 #[.string s] w (CutPost w n d b))) :
    Calls Tryz.prog 49 #[.string s] w (ErrPost w 12) := by
  go_enter Tryz.func49, Tryz.ntmps49
  go_wp2_with fail
  refine HW.out.mono ?_
  rintro e w1 ⟨rfl, b1⟩
  have B := Lib.hid b1
  clear b1
  go_wp2_with fail
  refine (FN.out _).mono ?_
  rintro e w' ⟨rfl, rfl⟩
  go_wp2_with fail
  go_ret
  exact ⟨rfl, B.out⟩

set_option maxHeartbeats 1000000 in
set_option maxRecDepth 100000 in
theorem qc_i14 (s n d : ByteArray) (FN : Hid (∀ W, Calls Tryz.prog 63 #[.string n] W fun e w' => e = .returned (.int .i64 0) ∧ W = w')) (CN : Hid (∀ W, Calls Tryz.prog 64 #[.string n] W fun e w' => e = .returned (.int .i64 14) ∧ W = w'))  (w : World)
    (HW : Hid (Calls Tryz.prog 62 #[.string s] w (CutPost w n d false))) :
    Calls Tryz.prog 49 #[.string s] w (ErrPost w 14) := by
  go_enter Tryz.func49, Tryz.ntmps49
  go_wp2_with fail
  refine HW.out.mono ?_
  rintro e w1 ⟨rfl, b1⟩
  have B := Lib.hid b1
  clear b1
  go_wp2_with fail
  refine (FN.out _).mono ?_
  rintro e w' ⟨rfl, rfl⟩
  go_wp2_with fail
  refine (CN.out _).mono ?_
  rintro e w' ⟨rfl, rfl⟩
  go_wp2_with fail
  go_ret
  exact ⟨rfl, B.out⟩

set_option maxHeartbeats 1000000 in
set_option maxRecDepth 100000 in
theorem qc_i0 (s n d : ByteArray) (FN : Hid (∀ W, Calls Tryz.prog 63 #[.string n] W fun e w' => e = .returned (.int .i64 0) ∧ W = w')) (CN : Hid (∀ W, Calls Tryz.prog 64 #[.string n] W fun e w' => e = .returned (.int .i64 0) ∧ W = w'))  (w : World)
    (HW : Hid (Calls Tryz.prog 62 #[.string s] w (CutPost w n d false))) :
    Calls Tryz.prog 49 #[.string s] w (ErrPost w 0) := by
  go_enter Tryz.func49, Tryz.ntmps49
  go_wp2_with fail
  refine HW.out.mono ?_
  rintro e w1 ⟨rfl, b1⟩
  have B := Lib.hid b1
  clear b1
  go_wp2_with fail
  refine (FN.out _).mono ?_
  rintro e w' ⟨rfl, rfl⟩
  go_wp2_with fail
  refine (CN.out _).mono ?_
  rintro e w' ⟨rfl, rfl⟩
  go_wp2_with fail
  go_ret
  exact ⟨rfl, B.out⟩

set_option maxHeartbeats 1000000 in
set_option maxRecDepth 100000 in
theorem qc_d (s n d : ByteArray) (FN : Hid (∀ W, Calls Tryz.prog 63 #[.string n] W fun e w' => e = .returned (.int .i64 0) ∧ W = w')) (FD : Hid (∀ W, Calls Tryz.prog 63 #[.string d] W fun e w' => e = .returned (.int .i64 12) ∧ W = w'))  (w : World)
    (HW : Hid (Calls Tryz.prog 62 #[.string s] w (CutPost w n d true))) :
    Calls Tryz.prog 49 #[.string s] w (ErrPost w 12) := by
  go_enter Tryz.func49, Tryz.ntmps49
  go_wp2_with fail
  refine HW.out.mono ?_
  rintro e w1 ⟨rfl, b1⟩
  have B := Lib.hid b1
  clear b1
  go_wp2_with fail
  refine (FN.out _).mono ?_
  rintro e w' ⟨rfl, rfl⟩
  go_wp2_with fail
  refine (FD.out _).mono ?_
  rintro e w' ⟨rfl, rfl⟩
  go_wp2_with fail
  go_ret
  exact ⟨rfl, B.out⟩

set_option maxHeartbeats 1000000 in
set_option maxRecDepth 100000 in
theorem qc_m (s n d : ByteArray) (FN : Hid (∀ W, Calls Tryz.prog 63 #[.string n] W fun e w' => e = .returned (.int .i64 0) ∧ W = w')) (FD : Hid (∀ W, Calls Tryz.prog 63 #[.string d] W fun e w' => e = .returned (.int .i64 0) ∧ W = w')) (h0 : 0 < d.size) (hm : ((d[0].toNat : Int) == 45) = true)  (w : World)
    (HW : Hid (Calls Tryz.prog 62 #[.string s] w (CutPost w n d true))) :
    Calls Tryz.prog 49 #[.string s] w (ErrPost w 12) := by
  go_enter Tryz.func49, Tryz.ntmps49
  go_wp2_with fail
  refine HW.out.mono ?_
  rintro e w1 ⟨rfl, b1⟩
  have B := Lib.hid b1
  clear b1
  go_wp2_with fail
  refine (FN.out _).mono ?_
  rintro e w' ⟨rfl, rfl⟩
  go_wp2_with fail
  refine (FD.out _).mono ?_
  rintro e w' ⟨rfl, rfl⟩
  go_wp2_with fail
  go_ret
  exact ⟨rfl, B.out⟩

set_option maxHeartbeats 1000000 in
set_option maxRecDepth 100000 in
theorem qc_0 (s n d : ByteArray) (FN : Hid (∀ W, Calls Tryz.prog 63 #[.string n] W fun e w' => e = .returned (.int .i64 0) ∧ W = w')) (FD : Hid (∀ W, Calls Tryz.prog 63 #[.string d] W fun e w' => e = .returned (.int .i64 0) ∧ W = w')) (h0 : 0 < d.size) (hm : ((d[0].toNat : Int) == 45) = false) (d0 : (d.toList == [48]) = true)  (w : World)
    (HW : Hid (Calls Tryz.prog 62 #[.string s] w (CutPost w n d true))) :
    Calls Tryz.prog 49 #[.string s] w (ErrPost w 12) := by
  go_enter Tryz.func49, Tryz.ntmps49
  go_wp2_with fail
  refine HW.out.mono ?_
  rintro e w1 ⟨rfl, b1⟩
  have B := Lib.hid b1
  clear b1
  go_wp2_with fail
  refine (FN.out _).mono ?_
  rintro e w' ⟨rfl, rfl⟩
  go_wp2_with fail
  refine (FD.out _).mono ?_
  rintro e w' ⟨rfl, rfl⟩
  go_wp2_with fail
  go_ret
  exact ⟨rfl, B.out⟩

set_option maxHeartbeats 1000000 in
set_option maxRecDepth 100000 in
theorem qc_1 (s n d : ByteArray) (FN : Hid (∀ W, Calls Tryz.prog 63 #[.string n] W fun e w' => e = .returned (.int .i64 0) ∧ W = w')) (FD : Hid (∀ W, Calls Tryz.prog 63 #[.string d] W fun e w' => e = .returned (.int .i64 0) ∧ W = w')) (h0 : 0 < d.size) (hm : ((d[0].toNat : Int) == 45) = false) (d0 : (d.toList == [48]) = false) (d1 : (d.toList == [49]) = true)  (w : World)
    (HW : Hid (Calls Tryz.prog 62 #[.string s] w (CutPost w n d true))) :
    Calls Tryz.prog 49 #[.string s] w (ErrPost w 12) := by
  go_enter Tryz.func49, Tryz.ntmps49
  go_wp2_with fail
  refine HW.out.mono ?_
  rintro e w1 ⟨rfl, b1⟩
  have B := Lib.hid b1
  clear b1
  go_wp2_with fail
  refine (FN.out _).mono ?_
  rintro e w' ⟨rfl, rfl⟩
  go_wp2_with fail
  refine (FD.out _).mono ?_
  rintro e w' ⟨rfl, rfl⟩
  go_wp2_with fail
  go_ret
  exact ⟨rfl, B.out⟩

set_option maxHeartbeats 1000000 in
set_option maxRecDepth 100000 in
theorem qc_b1 (s n d : ByteArray) (FN : Hid (∀ W, Calls Tryz.prog 63 #[.string n] W fun e w' => e = .returned (.int .i64 0) ∧ W = w')) (FD : Hid (∀ W, Calls Tryz.prog 63 #[.string d] W fun e w' => e = .returned (.int .i64 0) ∧ W = w')) (h0 : 0 < d.size) (hm : ((d[0].toNat : Int) == 45) = false) (d0 : (d.toList == [48]) = false) (d1 : (d.toList == [49]) = false) (CN : Hid (∀ W, Calls Tryz.prog 64 #[.string n] W fun e w' => e = .returned (.int .i64 14) ∧ W = w'))  (w : World)
    (HW : Hid (Calls Tryz.prog 62 #[.string s] w (CutPost w n d true))) :
    Calls Tryz.prog 49 #[.string s] w (ErrPost w 14) := by
  go_enter Tryz.func49, Tryz.ntmps49
  go_wp2_with fail
  refine HW.out.mono ?_
  rintro e w1 ⟨rfl, b1⟩
  have B := Lib.hid b1
  clear b1
  go_wp2_with fail
  refine (FN.out _).mono ?_
  rintro e w' ⟨rfl, rfl⟩
  go_wp2_with fail
  refine (FD.out _).mono ?_
  rintro e w' ⟨rfl, rfl⟩
  go_wp2_with fail
  refine (CN.out _).mono ?_
  rintro e w' ⟨rfl, rfl⟩
  go_wp2_with fail
  go_ret
  exact ⟨rfl, B.out⟩

set_option maxHeartbeats 1000000 in
set_option maxRecDepth 100000 in
theorem qc_b2 (s n d : ByteArray) (FN : Hid (∀ W, Calls Tryz.prog 63 #[.string n] W fun e w' => e = .returned (.int .i64 0) ∧ W = w')) (FD : Hid (∀ W, Calls Tryz.prog 63 #[.string d] W fun e w' => e = .returned (.int .i64 0) ∧ W = w')) (h0 : 0 < d.size) (hm : ((d[0].toNat : Int) == 45) = false) (d0 : (d.toList == [48]) = false) (d1 : (d.toList == [49]) = false) (CN : Hid (∀ W, Calls Tryz.prog 64 #[.string n] W fun e w' => e = .returned (.int .i64 0) ∧ W = w')) (CD : Hid (∀ W, Calls Tryz.prog 64 #[.string d] W fun e w' => e = .returned (.int .i64 14) ∧ W = w'))  (w : World)
    (HW : Hid (Calls Tryz.prog 62 #[.string s] w (CutPost w n d true))) :
    Calls Tryz.prog 49 #[.string s] w (ErrPost w 14) := by
  go_enter Tryz.func49, Tryz.ntmps49
  go_wp2_with fail
  refine HW.out.mono ?_
  rintro e w1 ⟨rfl, b1⟩
  have B := Lib.hid b1
  clear b1
  go_wp2_with fail
  refine (FN.out _).mono ?_
  rintro e w' ⟨rfl, rfl⟩
  go_wp2_with fail
  refine (FD.out _).mono ?_
  rintro e w' ⟨rfl, rfl⟩
  go_wp2_with fail
  refine (CN.out _).mono ?_
  rintro e w' ⟨rfl, rfl⟩
  go_wp2_with fail
  refine (CD.out _).mono ?_
  rintro e w' ⟨rfl, rfl⟩
  go_wp2_with fail
  go_ret
  exact ⟨rfl, B.out⟩

set_option maxHeartbeats 1000000 in
set_option maxRecDepth 100000 in
theorem qc_gno (s n d : ByteArray) (FN : Hid (∀ W, Calls Tryz.prog 63 #[.string n] W fun e w' => e = .returned (.int .i64 0) ∧ W = w')) (FD : Hid (∀ W, Calls Tryz.prog 63 #[.string d] W fun e w' => e = .returned (.int .i64 0) ∧ W = w')) (h0 : 0 < d.size) (hm : ((d[0].toNat : Int) == 45) = false) (d0 : (d.toList == [48]) = false) (d1 : (d.toList == [49]) = false) (CN : Hid (∀ W, Calls Tryz.prog 64 #[.string n] W fun e w' => e = .returned (.int .i64 0) ∧ W = w')) (CD : Hid (∀ W, Calls Tryz.prog 64 #[.string d] W fun e w' => e = .returned (.int .i64 0) ∧ W = w')) (g : ByteArray) (HG : Hid (∀ W, Calls Tryz.prog 65 #[.string n, .string d] W (GPost W g))) (hg : (g.toList == [49]) = false)  (w : World)
    (HW : Hid (Calls Tryz.prog 62 #[.string s] w (CutPost w n d true))) :
    Calls Tryz.prog 49 #[.string s] w (ErrPost w 12) := by
  go_enter Tryz.func49, Tryz.ntmps49
  go_wp2_with fail
  refine HW.out.mono ?_
  rintro e w1 ⟨rfl, b1⟩
  have B := Lib.hid b1
  clear b1
  go_wp2_with fail
  refine (FN.out _).mono ?_
  rintro e w' ⟨rfl, rfl⟩
  go_wp2_with fail
  refine (FD.out _).mono ?_
  rintro e w' ⟨rfl, rfl⟩
  go_wp2_with fail
  refine (CN.out _).mono ?_
  rintro e w' ⟨rfl, rfl⟩
  go_wp2_with fail
  refine (CD.out _).mono ?_
  rintro e w' ⟨rfl, rfl⟩
  go_wp2_with fail
  refine (HG.out _).mono ?_
  rintro e w4 ⟨rfl, b4⟩
  have B4 := Lib.hid (B.out.trans (b4.mono B.out.size))
  clear b4
  go_wp2_with fail
  go_ret
  exact ⟨rfl, B4.out⟩

set_option maxHeartbeats 1000000 in
set_option maxRecDepth 100000 in
theorem qc_gyes (s n d : ByteArray) (FN : Hid (∀ W, Calls Tryz.prog 63 #[.string n] W fun e w' => e = .returned (.int .i64 0) ∧ W = w')) (FD : Hid (∀ W, Calls Tryz.prog 63 #[.string d] W fun e w' => e = .returned (.int .i64 0) ∧ W = w')) (h0 : 0 < d.size) (hm : ((d[0].toNat : Int) == 45) = false) (d0 : (d.toList == [48]) = false) (d1 : (d.toList == [49]) = false) (CN : Hid (∀ W, Calls Tryz.prog 64 #[.string n] W fun e w' => e = .returned (.int .i64 0) ∧ W = w')) (CD : Hid (∀ W, Calls Tryz.prog 64 #[.string d] W fun e w' => e = .returned (.int .i64 0) ∧ W = w')) (g : ByteArray) (HG : Hid (∀ W, Calls Tryz.prog 65 #[.string n, .string d] W (GPost W g))) (hg : (g.toList == [49]) = true)  (w : World)
    (HW : Hid (Calls Tryz.prog 62 #[.string s] w (CutPost w n d true))) :
    Calls Tryz.prog 49 #[.string s] w (ErrPost w 0) := by
  go_enter Tryz.func49, Tryz.ntmps49
  go_wp2_with fail
  refine HW.out.mono ?_
  rintro e w1 ⟨rfl, b1⟩
  have B := Lib.hid b1
  clear b1
  go_wp2_with fail
  refine (FN.out _).mono ?_
  rintro e w' ⟨rfl, rfl⟩
  go_wp2_with fail
  refine (FD.out _).mono ?_
  rintro e w' ⟨rfl, rfl⟩
  go_wp2_with fail
  refine (CN.out _).mono ?_
  rintro e w' ⟨rfl, rfl⟩
  go_wp2_with fail
  refine (CD.out _).mono ?_
  rintro e w' ⟨rfl, rfl⟩
  go_wp2_with fail
  refine (HG.out _).mono ?_
  rintro e w4 ⟨rfl, b4⟩
  have B4 := Lib.hid (B.out.trans (b4.mono B.out.size))
  clear b4
  go_wp2_with fail
  go_ret
  exact ⟨rfl, B4.out⟩

end Go.Proofs.YtdgmpgejemgbbaaGreatDoor

namespace Go.Proofs.YtdgmpgejemgbbaaGreatDoor
open Go.RowKit Go.Shelf

theorem form_is (s : ByteArray) (n : Int) (h : frmZ s.data.toList = n) (hs : s.size ≤ 1000000) :
    ∀ W, Calls Tryz.prog 63 #[.string s] W fun e w' => e = .returned (.int .i64 n) ∧ W = w' := fun W => by
  have := form_any s W hs
  rwa [h] at this
theorem check_is (s : ByteArray) (n : Int) (h : chkZ s.data.toList = n) (hs : s.size ≤ 1000000) :
    ∀ W, Calls Tryz.prog 64 #[.string s] W fun e w' => e = .returned (.int .i64 n) ∧ W = w' := fun W => by
  have := check_same s W hs
  rwa [h] at this
theorem frmZ_12 {l : List UInt8} (h : chkZ l = 12) : frmZ l = 12 := by unfold frmZ; rw [if_pos h]
theorem frmZ_0 {l : List UInt8} (h : chkZ l ≠ 12) : frmZ l = 0 := by unfold frmZ; rw [if_neg h]

theorem qrat_int (s : ByteArray) (w : World) (hs : s.size ≤ 100000) (h : slN s.data.toList = s.data.toList.length) :
    Calls Tryz.prog 49 #[.string s] w (ErrPost w (chkR s.data.toList)) := by
  have HW : Hid (Calls Tryz.prog 62 #[.string s] w (CutPost w s ByteArray.empty false)) := split_of _ _ _ _ w (cut_of _ _ _ _ w (scut_none s w h))
  rw [chkR_int h]
  rcases chkZ_three s.data.toList with e | e | e <;> rw [e]
  · exact qc_i0 s s _ (form_is s 0 (frmZ_0 (by omega)) (by omega)) (check_is s 0 e (by omega)) w HW
  · exact qc_n s s _ _ (form_is s 12 (frmZ_12 e) (by omega)) w HW
  · exact qc_i14 s s _ (form_is s 0 (frmZ_0 (by omega)) (by omega)) (check_is s 14 e (by omega)) w HW

theorem qrat_frac (s : ByteArray) (k : Nat) (w : World) (hs : s.size ≤ 100000) (h : slN s.data.toList = k) (hk : k < s.size) :
    Calls Tryz.prog 49 #[.string s] w (ErrPost w (chkR s.data.toList)) := by
  rw [chkR_frac h (by rw [data_len]; exact hk)]
  have HW0 : Calls Tryz.prog 62 #[.string s] w (CutPost w (s.extract 0 k) (s.extract (k + 1) s.size) true) := split_of _ _ _ _ w (cut_of _ _ _ _ w (scut_at s k w (by omega) h hk))
  obtain ⟨n, hn⟩ : ∃ n, n = s.extract 0 k := ⟨_, rfl⟩
  obtain ⟨d, hd⟩ : ∃ d, d = s.extract (k + 1) s.size := ⟨_, rfl⟩
  rw [← hn, ← hd] at HW0
  have en : s.data.toList.take k = n.data.toList := by rw [hn, Lib.extract_data]; simp
  have ed : s.data.toList.drop (k + 1) = d.data.toList := by rw [hd, Lib.extract_to_end]
  rw [en, ed]
  have sn : n.size ≤ 100000 := by rw [hn]; simp; omega
  have sd : d.size ≤ 100000 := by rw [hd]; simp; omega
  have HW := Lib.hid HW0
  clear HW0 hn hd en ed h hk
  by_cases n12 : chkZ n.data.toList = 12
  · rw [chkF_12 (.inl n12)]
    exact qc_n s n d _ (form_is n 12 (frmZ_12 n12) (by omega)) w HW
  have FN := Lib.hid (form_is n 0 (frmZ_0 n12) (by omega))
  by_cases d12 : chkZ d.data.toList = 12
  · rw [chkF_12 (.inr (.inl d12))]
    exact qc_d s n d FN (form_is d 12 (frmZ_12 d12) (by omega)) w HW
  have FD := Lib.hid (form_is d 0 (frmZ_0 d12) (by omega))
  have h0 : 0 < d.size := by
    rcases Nat.eq_zero_or_pos d.size with e | e
    · refine absurd ?_ d12
      have : d.data.toList = [] := List.eq_nil_of_length_eq_zero (by rw [data_len]; exact e)
      rw [this]
      rcases chkZ_cases [] with h | ⟨z, _, h, _⟩
      · exact h.1
      · unfold txtZ at h
        split at h
        · cases h
        · exact absurd h.symm (txtN_ne _)
    · exact e
  cases hm : ((d[0].toNat : Int) == 45) with
  | true =>
    rw [chkF_12 (.inr (.inr (.inl (head_of h0 (n := 45) (by omega) hm))))]
    exact qc_m s n d FN FD h0 hm w HW
  | false =>
    have hm' := head_not h0 (n := 45) (by omega) hm
    cases d0 : (d.toList == [48]) with
    | true =>
      rw [chkF_12 (.inr (.inr (.inr (.inl (by rw [toList_data] at d0; simpa using d0)))))]
      exact qc_0 s n d FN FD h0 hm d0 w HW
    | false =>
      cases d1 : (d.toList == [49]) with
      | true =>
        rw [chkF_12 (.inr (.inr (.inr (.inr (by rw [toList_data] at d1; simpa using d1)))))]
        exact qc_1 s n d FN FD h0 hm d0 d1 w HW
      | false =>
        have d0' : d.data.toList ≠ [48] := by rw [toList_data] at d0; simpa using d0
        have d1' : d.data.toList ≠ [49] := by rw [toList_data] at d1; simpa using d1
        rcases chkZ_cases n.data.toList with ⟨e, _⟩ | ⟨x, _, n2, n3⟩
        · exact absurd e n12
        rcases chkZ_cases d.data.toList with ⟨e, _⟩ | ⟨y, _, d2, d3⟩
        · exact absurd e d12
        have ef : chkF n.data.toList d.data.toList = if bigZ x = true ∨ bigZ y = true then 14 else if Nat.gcd x.natAbs y.natAbs = 1 then 0 else 12 := by
          rw [n2, d2]; exact chkF_some x y (by rw [d2] at hm'; have := mt (txtZ_head y).2 hm'; omega) (by rw [← d2]; exact d0') (by rw [← d2]; exact d1')
        rw [ef]
        cases bx : bigZ x with
        | true =>
          rw [bx, if_pos rfl] at n3
          rw [if_pos (.inl rfl)]
          exact qc_b1 s n d FN FD h0 hm d0 d1 (check_is n 14 n3 (by omega)) w HW
        | false =>
          rw [bx, if_neg (by simp)] at n3
          have CN := Lib.hid (check_is n 0 n3 (by omega))
          cases bb : bigZ y with
          | true =>
            rw [bb, if_pos rfl] at d3
            rw [if_pos (.inr rfl)]
            exact qc_b2 s n d FN FD h0 hm d0 d1 CN (check_is d 14 d3 (by omega)) w HW
          | false =>
            rw [bb, if_neg (by simp)] at d3
            have CD := Lib.hid (check_is d 0 d3 (by omega))
            rw [if_neg (by simp)]
            have HG : Hid (∀ W, Calls Tryz.prog 65 #[.string n, .string d] W (GPost W ⟨(txtZ (Nat.gcd x.natAbs y.natAbs : Int)).toArray⟩)) := fun W => gcd_good n d x y W sn sd n2 d2 bx bb
            by_cases hg : Nat.gcd x.natAbs y.natAbs = 1
            · rw [if_pos hg]
              exact qc_gyes s n d FN FD h0 hm d0 d1 CN CD _ HG (by rw [toList_data, hg]; show ((txtZ ((1 : Nat) : Int)) == [49]) = true; rw [(txtZ_one 1).2 rfl]; rfl) w HW
            · rw [if_neg hg]
              exact qc_gno s n d FN FD h0 hm d0 d1 CN CD _ HG (by rw [toList_data]; exact list_beq.2 (fun h => hg ((txtZ_one _).1 h))) w HW

theorem qrat_any (s : ByteArray) (w : World) (hs : s.size ≤ 100000) :
    Calls Tryz.prog 49 #[.string s] w (ErrPost w (chkR s.data.toList)) := by
  by_cases h : slN s.data.toList < s.size
  · exact qrat_frac s _ w hs rfl h
  · exact qrat_int s w hs (by have := slN_le s.data.toList; rw [data_len] at this ⊢; omega)

end Go.Proofs.YtdgmpgejemgbbaaGreatDoor
