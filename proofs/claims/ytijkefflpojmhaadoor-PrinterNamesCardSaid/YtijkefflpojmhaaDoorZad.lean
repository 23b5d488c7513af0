/-
  The program's Check of rationals. No condition. The program's Check of rationals, joined. No condition. Plain mathematics: products, dates, names. No condition. Names walked: the program's and the reference's. No condition. The sort of an expression (0: not well-formed; 1: a number; 2: a truth value). No program. The reference's Twin of an expression: a tree of its own, equal. No condition but lengths. The reference's Twin of an expression, walked. No condition but the size. The reference's Sort of an expression, walked. No condition but the size. The program's leaf, walked. No condition but the size. A tree that came in, opened, its kinds in a byte's range; the map of the shapes as it is laid. No condition. Contracts: the tree, the tree in memory, a tree that came in opened. No condition. The reference's Sort of an expression, walked: some kinds. No condition but the size. The reference's Sort of an expression, walked: some kinds. No condition but the size. The reference's Sort of an expression, walked: some kinds. No condition but the size. The reference's Sort of an expression, walked: some kinds. No condition but the size. The program's sorted, walked. No condition but the size. Both Check of an expression, walked. No condition but the size. Keywords: the reference's Words and Keyword walked. No condition. Quoted names: the reference's name and Quote. No condition. Quoted names: the reference's name and Quote as one function each; the program's list of keywords. No condition. The program's halving over its list of keywords finds what the reference finds. No condition, no program. The program's Keyword: the library's BinarySearch by the shelf's contract. No condition. Quoted names: the program's name and Quote. No condition. Leap years and the lengths of months walked: the program's and the reference's. Condition: years up to 10000.
-/
import Derived.Test.YtijkefflpojmhaaDoorZab
import Derived.Test.YtijkefflpojmhaaDoorZac
import Derived.RegionTactic
import Derived.Test.YtijkefflpojmhaaDoorZaa
import Derived.Deep.RegionLaw
import Derived.Deep.AppendLies
import Derived.Maps.Keyed
import Derived.JoinedTies
import Derived.LaidMore
import Derived.MakeChecks
import Derived.Deep.RegionHeld3
import Derived.Shelf.Spec.SearchS
import Derived.Test.YtijkefflpojmhaaDoorRows
import Derived.IntWalk
namespace Go.Proofs.YtijkefflpojmhaaDoor
open Go.RowKit Go.Shelf

theorem idx_slN (l : List UInt8) : (Lib.indexByte l 47 = -1 ∧ slN l = l.length) ∨ (Lib.indexByte l 47 = (slN l : Int) ∧ slN l < l.length) := by
  have h0 := Lib.indexByte_ge l 47
  by_cases h : Lib.indexByte l 47 = -1
  · exact .inl ⟨h, slN_none fun j _ => Lib.indexByte_none h j⟩
  · right
    obtain ⟨o, ho⟩ : ∃ o : Nat, Lib.indexByte l 47 = o := ⟨(Lib.indexByte l 47).toNat, by omega⟩
    obtain ⟨h1, h2⟩ := Lib.indexByte_some ho
    have hl : o < l.length := by
      rcases Nat.lt_or_ge o l.length with h | h
      · exact h
      · rw [List.getElem?_eq_none h] at h1; cases h1
    have := slN_at hl h2 h1
    rw [this]; exact ⟨ho, hl⟩
/-- The two parts and whether there are two. -/
def CutPost (w : World) (n d : ByteArray) (b : Bool) (e : Ending) (w' : World) : Prop := e = .returned (.tuple #[.string n, .string d, .bool b]) ∧ Below w.heap.size w w'

set_option maxHeartbeats 1000000 in
set_option maxRecDepth 100000 in
theorem scut_none (s : ByteArray) (w : World) (h : slN s.data.toList = s.data.toList.length) :
    Calls Tryd.prog 89 #[.string s, .string ⟨#[47]⟩] w (CutPost w s ByteArray.empty false) := by
  have hi := Tryd.stringslite_Index_one s 47 w
  rcases idx_slN s.data.toList with ⟨e, _⟩ | ⟨_, e⟩
  · rw [e] at hi
    have HI := Lib.hid hi
    clear hi e h
    go_enter Tryd.func89, Tryd.ntmps89
    go_wp2_with fail
    refine HI.out.mono ?_
    rintro e w' ⟨rfl, rfl⟩
    go_wp2_with fail
    go_ret3
    exact ⟨rfl, Below.refl _ _⟩
  · omega

set_option maxHeartbeats 1000000 in
set_option maxRecDepth 100000 in
theorem scut_at (s : ByteArray) (k : Nat) (w : World) (hs : s.size ≤ 1000000) (h : slN s.data.toList = k) (hk : k < s.size) :
    Calls Tryd.prog 89 #[.string s, .string ⟨#[47]⟩] w (CutPost w (s.extract 0 k) (s.extract (k + 1) s.size) true) := by
  have hi := Tryd.stringslite_Index_one s 47 w
  rcases idx_slN s.data.toList with ⟨_, e⟩ | ⟨e, _⟩
  · rw [data_len] at e; omega
  · rw [e, h] at hi
    have HI := Lib.hid hi
    clear hi e h
    go_enter Tryd.func89, Tryd.ntmps89
    go_wp2_with fail
    refine HI.out.mono ?_
    rintro e w' ⟨rfl, rfl⟩
    go_wp2_with fail
    go_region
    all_goals
      go_wp2_with fail
      go_ret3
      exact ⟨rfl, (Below.refl _ _).drew⟩

set_option maxHeartbeats 1000000 in
set_option maxRecDepth 100000 in
theorem cut_of (s n d : ByteArray) (b : Bool) (w : World) (h : Calls Tryd.prog 89 #[.string s, .string ⟨#[47]⟩] w (CutPost w n d b)) :
    Calls Tryd.prog 84 #[.string s, .string ⟨#[47]⟩] w (CutPost w n d b) := by
  have HC := Lib.hid h
  clear h
  go_enter Tryd.func84, Tryd.ntmps84
  go_wp2_with fail
  refine HC.out.mono ?_
  rintro e w' ⟨rfl, b1⟩
  have B1 := Lib.hid b1
  clear b1
  go_wp2_with fail
  go_ret3
  exact ⟨rfl, B1.out⟩

set_option maxHeartbeats 1000000 in
set_option maxRecDepth 100000 in
theorem split_of (s n d : ByteArray) (b : Bool) (w : World) (h : Calls Tryd.prog 84 #[.string s, .string ⟨#[47]⟩] w (CutPost w n d b)) :
    Calls Tryd.prog 73 #[.string s] w (CutPost w n d b) := by
  have HC := Lib.hid h
  clear h
  go_enter Tryd.func73, Tryd.ntmps73
  go_wp2_with fail
  refine HC.out.mono ?_
  rintro e w' ⟨rfl, b1⟩
  have B1 := Lib.hid b1
  clear b1
  go_wp2_with fail
  go_ret3
  exact ⟨rfl, B1.out⟩

def frmZ (l : List UInt8) : Int := if chkZ l = 12 then 12 else 0
theorem chkZ_three (l : List UInt8) : chkZ l = 0 ∨ chkZ l = 12 ∨ chkZ l = 14 := by
  rcases chkZ_cases l with ⟨h, _⟩ | ⟨z, _, _, h⟩
  · exact .inr (.inl h)
  · rw [h]; split
    · exact .inr (.inr rfl)
    · exact .inl rfl

set_option maxHeartbeats 1000000 in
set_option maxRecDepth 100000 in
theorem form_any (s : ByteArray) (w : World) (hs : s.size ≤ 1000000) :
    Calls Tryd.prog 74 #[.string s] w fun e w' => e = .returned (.int .i64 (frmZ s.data.toList)) ∧ w = w' := by
  have hc := check_same s w hs
  unfold frmZ
  rcases chkZ_three s.data.toList with h | h | h <;> rw [h] at hc ⊢ <;> have HC := Lib.hid hc <;> clear hc h
  all_goals
    go_enter Tryd.func74, Tryd.ntmps74
    go_wp2_with fail
    refine HC.out.mono ?_
    rintro e w' ⟨rfl, rfl⟩
    go_wp2_with fail
    go_ret
    exact ⟨rfl, rfl⟩

set_option maxHeartbeats 1000000 in
set_option maxRecDepth 100000 in
theorem qc_n (s n d : ByteArray) (b : Bool) (FN : Hid (∀ W, Calls Tryd.prog 74 #[.string n] W fun e w' => e = .returned (.int .i64 12) ∧ W = w'))  (w : World)
    (HW : Hid (Calls Tryd.prog 73 #[.string s] w (CutPost w n d b))) :
    Calls Tryd.prog 63 #[.string s] w (ErrPost w 12) := by
  go_enter Tryd.func63, Tryd.ntmps63
  go_wp2_with fail
  refine HW.out.mono ?_
  rintro e w1 ⟨rfl, b1⟩
  have B := Lib.hid b1
  clear b1
  go_wp2_with fail
  refine (FN.out _).mono ?_
  rintro e w' ⟨rfl, rfl⟩
  go_wp2_with fail
  go_ret
  exact ⟨rfl, B.out⟩

set_option maxHeartbeats 1000000 in
set_option maxRecDepth 100000 in
theorem qc_i14 (s n d : ByteArray) (FN : Hid (∀ W, Calls Tryd.prog 74 #[.string n] W fun e w' => e = .returned (.int .i64 0) ∧ W = w')) (CN : Hid (∀ W, Calls Tryd.prog 75 #[.string n] W fun e w' => e = .returned (.int .i64 14) ∧ W = w'))  (w : World)
    (HW : Hid (Calls Tryd.prog 73 #[.string s] w (CutPost w n d false))) :
    Calls Tryd.prog 63 #[.string s] w (ErrPost w 14) := by
  go_enter Tryd.func63, Tryd.ntmps63
  go_wp2_with fail
  refine HW.out.mono ?_
  rintro e w1 ⟨rfl, b1⟩
  have B := Lib.hid b1
  clear b1
  go_wp2_with fail
  refine (FN.out _).mono ?_
  rintro e w' ⟨rfl, rfl⟩
  go_wp2_with fail
  refine (CN.out _).mono ?_
  rintro e w' ⟨rfl, rfl⟩
  go_wp2_with fail
  go_ret
  exact ⟨rfl, B.out⟩

set_option maxHeartbeats 1000000 in
set_option maxRecDepth 100000 in
theorem qc_i0 (s n d : ByteArray) (FN : Hid (∀ W, Calls Tryd.prog 74 #[.string n] W fun e w' => e = .returned (.int .i64 0) ∧ W = w')) (CN : Hid (∀ W, Calls Tryd.prog 75 #[.string n] W fun e w' => e = .returned (.int .i64 0) ∧ W = w'))  (w : World)
    (HW : Hid (Calls Tryd.prog 73 #[.string s] w (CutPost w n d false))) :
    Calls Tryd.prog 63 #[.string s] w (ErrPost w 0) := by
  go_enter Tryd.func63, Tryd.ntmps63
  go_wp2_with fail
  refine HW.out.mono ?_
  rintro e w1 ⟨rfl, b1⟩
  have B := Lib.hid b1
  clear b1
  go_wp2_with fail
  refine (FN.out _).mono ?_
  rintro e w' ⟨rfl, rfl⟩
  go_wp2_with fail
  refine (CN.out _).mono ?_
  rintro e w' ⟨rfl, rfl⟩
  go_wp2_with fail
  go_ret
  exact ⟨rfl, B.out⟩

set_option maxHeartbeats 1000000 in
set_option maxRecDepth 100000 in
theorem qc_d (s n d : ByteArray) (FN : Hid (∀ W, Calls Tryd.prog 74 #[.string n] W fun e w' => e = .returned (.int .i64 0) ∧ W = w')) (FD : Hid (∀ W, Calls Tryd.prog 74 #[.string d] W fun e w' => e = .returned (.int .i64 12) ∧ W = w'))  (w : World)
    (HW : Hid (Calls Tryd.prog 73 #[.string s] w (CutPost w n d true))) :
    Calls Tryd.prog 63 #[.string s] w (ErrPost w 12) := by
  go_enter Tryd.func63, Tryd.ntmps63
  go_wp2_with fail
  refine HW.out.mono ?_
  rintro e w1 ⟨rfl, b1⟩
  have B := Lib.hid b1
  clear b1
  go_wp2_with fail
  refine (FN.out _).mono ?_
  rintro e w' ⟨rfl, rfl⟩
  go_wp2_with fail
  refine (FD.out _).mono ?_
  rintro e w' ⟨rfl, rfl⟩
  go_wp2_with fail
  go_ret
  exact ⟨rfl, B.out⟩

set_option maxHeartbeats 1000000 in
set_option maxRecDepth 100000 in
theorem qc_m (s n d : ByteArray) (FN : Hid (∀ W, Calls Tryd.prog 74 #[.string n] W fun e w' => e = .returned (.int .i64 0) ∧ W = w')) (FD : Hid (∀ W, Calls Tryd.prog 74 #[.string d] W fun e w' => e = .returned (.int .i64 0) ∧ W = w')) (h0 : 0 < d.size) (hm : ((d[0].toNat : Int) == 45) = true)  (w : World)
    (HW : Hid (Calls Tryd.prog 73 #[.string s] w (CutPost w n d true))) :
    Calls Tryd.prog 63 #[.string s] w (ErrPost w 12) := by
  go_enter Tryd.func63, Tryd.ntmps63
  go_wp2_with fail
  refine HW.out.mono ?_
  rintro e w1 ⟨rfl, b1⟩
  have B := Lib.hid b1
  clear b1
  go_wp2_with fail
  refine (FN.out _).mono ?_
  rintro e w' ⟨rfl, rfl⟩
  go_wp2_with fail
  refine (FD.out _).mono ?_
  rintro e w' ⟨rfl, rfl⟩
  go_wp2_with fail
  go_ret
  exact ⟨rfl, B.out⟩

set_option maxHeartbeats 1000000 in
set_option maxRecDepth 100000 in
theorem qc_0 (s n d : ByteArray) (FN : Hid (∀ W, Calls Tryd.prog 74 #[.string n] W fun e w' => e = .returned (.int .i64 0) ∧ W = w')) (FD : Hid (∀ W, Calls Tryd.prog 74 #[.string d] W fun e w' => e = .returned (.int .i64 0) ∧ W = w')) (h0 : 0 < d.size) (hm : ((d[0].toNat : Int) == 45) = false) (d0 : (d.toList == [48]) = true)  (w : World)
    (HW : Hid (Calls Tryd.prog 73 #[.string s] w (CutPost w n d true))) :
    Calls Tryd.prog 63 #[.string s] w (ErrPost w 12) := by
  go_enter Tryd.func63, Tryd.ntmps63
  go_wp2_with fail
  refine HW.out.mono ?_
  rintro e w1 ⟨rfl, b1⟩
  have B := Lib.hid b1
  clear b1
  go_wp2_with fail
  refine (FN.out _).mono ?_
  rintro e w' ⟨rfl, rfl⟩
  go_wp2_with fail
  refine (FD.out _).mono ?_
  rintro e w' ⟨rfl, rfl⟩
  go_wp2_with fail
  go_ret
  exact ⟨rfl, B.out⟩

set_option maxHeartbeats 1000000 in
set_option maxRecDepth 100000 in
theorem qc_1 (s n d : ByteArray) (FN : Hid (∀ W, Calls Tryd.prog 74 #[.string n] W fun e w' => e = .returned (.int .i64 0) ∧ W = w')) (FD : Hid (∀ W, Calls Tryd.prog 74 #[.string d] W fun e w' => e = .returned (.int .i64 0) ∧ W = w')) (h0 : 0 < d.size) (hm : ((d[0].toNat : Int) == 45) = false) (d0 : (d.toList == [48]) = false) (d1 : (d.toList == [49]) = true)  (w : World)
    (HW : Hid (Calls Tryd.prog 73 #[.string s] w (CutPost w n d true))) :
    Calls Tryd.prog 63 #[.string s] w (ErrPost w 12) := by
  go_enter Tryd.func63, Tryd.ntmps63
  go_wp2_with fail
  refine HW.out.mono ?_
  rintro e w1 ⟨rfl, b1⟩
  have B := Lib.hid b1
  clear b1
  go_wp2_with fail
  refine (FN.out _).mono ?_
  rintro e w' ⟨rfl, rfl⟩
  go_wp2_with fail
  refine (FD.out _).mono ?_
  rintro e w' ⟨rfl, rfl⟩
  go_wp2_with fail
  go_ret
  exact ⟨rfl, B.out⟩

set_option maxHeartbeats 1000000 in
set_option maxRecDepth 100000 in
theorem qc_b1 (s n d : ByteArray) (FN : Hid (∀ W, Calls Tryd.prog 74 #[.string n] W fun e w' => e = .returned (.int .i64 0) ∧ W = w')) (FD : Hid (∀ W, Calls Tryd.prog 74 #[.string d] W fun e w' => e = .returned (.int .i64 0) ∧ W = w')) (h0 : 0 < d.size) (hm : ((d[0].toNat : Int) == 45) = false) (d0 : (d.toList == [48]) = false) (d1 : (d.toList == [49]) = false) (CN : Hid (∀ W, Calls Tryd.prog 75 #[.string n] W fun e w' => e = .returned (.int .i64 14) ∧ W = w'))  (w : World)
    (HW : Hid (Calls Tryd.prog 73 #[.string s] w (CutPost w n d true))) :
    Calls Tryd.prog 63 #[.string s] w (ErrPost w 14) := by
  go_enter Tryd.func63, Tryd.ntmps63
  go_wp2_with fail
  refine HW.out.mono ?_
  rintro e w1 ⟨rfl, b1⟩
  have B := Lib.hid b1
  clear b1
  go_wp2_with fail
  refine (FN.out _).mono ?_
  rintro e w' ⟨rfl, rfl⟩
  go_wp2_with fail
  refine (FD.out _).mono ?_
  rintro e w' ⟨rfl, rfl⟩
  go_wp2_with fail
  refine (CN.out _).mono ?_
  rintro e w' ⟨rfl, rfl⟩
  go_wp2_with fail
  go_ret
  exact ⟨rfl, B.out⟩

set_option maxHeartbeats 1000000 in
set_option maxRecDepth 100000 in
theorem qc_b2 (s n d : ByteArray) (FN : Hid (∀ W, Calls Tryd.prog 74 #[.string n] W fun e w' => e = .returned (.int .i64 0) ∧ W = w')) (FD : Hid (∀ W, Calls Tryd.prog 74 #[.string d] W fun e w' => e = .returned (.int .i64 0) ∧ W = w')) (h0 : 0 < d.size) (hm : ((d[0].toNat : Int) == 45) = false) (d0 : (d.toList == [48]) = false) (d1 : (d.toList == [49]) = false) (CN : Hid (∀ W, Calls Tryd.prog 75 #[.string n] W fun e w' => e = .returned (.int .i64 0) ∧ W = w')) (CD : Hid (∀ W, Calls Tryd.prog 75 #[.string d] W fun e w' => e = .returned (.int .i64 14) ∧ W = w'))  (w : World)
    (HW : Hid (Calls Tryd.prog 73 #[.string s] w (CutPost w n d true))) :
    Calls Tryd.prog 63 #[.string s] w (ErrPost w 14) := by
  go_enter Tryd.func63, Tryd.ntmps63
  go_wp2_with fail
  refine HW.out.mono ?_
  rintro e w1 ⟨rfl, b1⟩
  have B := Lib.hid b1
  clear b1
  go_wp2_with fail
  refine (FN.out _).mono ?_
  rintro e w' ⟨rfl, rfl⟩
  go_wp2_with fail
  refine (FD.out _).mono ?_
  rintro e w' ⟨rfl, rfl⟩
  go_wp2_with fail
  refine (CN.out _).mono ?_
  rintro e w' ⟨rfl, rfl⟩
  go_wp2_with fail
  refine (CD.out _).mono ?_
  rintro e w' ⟨rfl, rfl⟩
  go_wp2_with fail
  go_ret
  exact ⟨rfl, B.out⟩

set_option maxHeartbeats 1000000 in
set_option maxRecDepth 100000 in
theorem qc_gno (s n d : ByteArray) (FN : Hid (∀ W, Calls Tryd.prog 74 #[.string n] W fun e w' => e = .returned (.int .i64 0) ∧ W = w')) (FD : Hid (∀ W, Calls Tryd.prog 74 #[.string d] W fun e w' => e = .returned (.int .i64 0) ∧ W = w')) (h0 : 0 < d.size) (hm : ((d[0].toNat : Int) == 45) = false) (d0 : (d.toList == [48]) = false) (d1 : (d.toList == [49]) = false) (CN : Hid (∀ W, Calls Tryd.prog 75 #[.string n] W fun e w' => e = .returned (.int .i64 0) ∧ W = w')) (CD : Hid (∀ W, Calls Tryd.prog 75 #[.string d] W fun e w' => e = .returned (.int .i64 0) ∧ W = w')) (g : ByteArray) (HG : Hid (∀ W, Calls Tryd.prog 76 #[.string n, .string d] W (GPost W g))) (hg : (g.toList == [49]) = false)  (w : World)
    (HW : Hid (Calls Tryd.prog 73 #[.string s] w (CutPost w n d true))) :
    Calls Tryd.prog 63 #[.string s] w (ErrPost w 12) := by
  go_enter Tryd.func63, Tryd.ntmps63
  go_wp2_with fail
  refine HW.out.mono ?_
  rintro e w1 ⟨rfl, b1⟩
  have B := Lib.hid b1
  clear b1
  go_wp2_with fail
  refine (FN.out _).mono ?_
  rintro e w' ⟨rfl, rfl⟩
  go_wp2_with fail
  refine (FD.out _).mono ?_
  rintro e w' ⟨rfl, rfl⟩
  go_wp2_with fail
  refine (CN.out _).mono ?_
  rintro e w' ⟨rfl, rfl⟩
  go_wp2_with fail
  refine (CD.out _).mono ?_
  rintro e w' ⟨rfl, rfl⟩
  go_wp2_with fail
  refine (HG.out _).mono ?_
  rintro e w4 ⟨rfl, b4⟩
  have B4 := Lib.hid (B.out.trans (b4.mono B.out.size))
  clear b4
  go_wp2_with fail
  go_ret
  exact ⟨rfl, B4.out⟩

set_option maxHeartbeats 1000000 in
set_option maxRecDepth 100000 in
theorem qc_gyes (s n d : ByteArray) (FN : Hid (∀ W, Calls Tryd.prog 74 #[.string n] W fun e w' => e = .returned (.int .i64 0) ∧ W = w')) (FD : Hid (∀ W, Calls Tryd.prog 74 #[.string d] W fun e w' => e = .returned (.int .i64 0) ∧ W = w')) (h0 : 0 < d.size) (hm : ((d[0].toNat : Int) == 45) = false) (d0 : (d.toList == [48]) = false) (d1 : (d.toList == [49]) = false) (CN : Hid (∀ W, Calls Tryd.prog 75 #[.string n] W fun e w' => e = .returned (.int .i64 0) ∧ W = w')) (CD : Hid (∀ W, Calls Tryd.prog 75 #[.string d] W fun e w' => e = .returned (.int .i64 0) ∧ W = w')) (g : ByteArray) (HG : Hid (∀ W, Calls Tryd.prog 76 #[.string n, .string d] W (GPost W g))) (hg : (g.toList == [49]) = true)  (w : World)
    (HW : Hid (Calls Tryd.prog 73 #[.string s] w (CutPost w n d true))) :
    Calls Tryd.prog 63 #[.string s] w (ErrPost w 0) := by
  go_enter Tryd.func63, Tryd.ntmps63
  go_wp2_with fail
  refine HW.out.mono ?_
  rintro e w1 ⟨rfl, b1⟩
  have B := Lib.hid b1
  clear b1
  go_wp2_with fail
  refine (FN.out _).mono ?_
  rintro e w' ⟨rfl, rfl⟩
  go_wp2_with fail
  refine (FD.out _).mono ?_
  rintro e w' ⟨rfl, rfl⟩
  go_wp2_with fail
  refine (CN.out _).mono ?_
  rintro e w' ⟨rfl, rfl⟩
  go_wp2_with fail
  refine (CD.out _).mono ?_
  rintro e w' ⟨rfl, rfl⟩
  go_wp2_with fail
  refine (HG.out _).mono ?_
  rintro e w4 ⟨rfl, b4⟩
  have B4 := Lib.hid (B.out.trans (b4.mono B.out.size))
  clear b4
  go_wp2_with fail
  go_ret
  exact ⟨rfl, B4.out⟩

end Go.Proofs.YtijkefflpojmhaaDoor

namespace Go.Proofs.YtijkefflpojmhaaDoor
open Go.RowKit Go.Shelf

theorem form_is (s : ByteArray) (n : Int) (h : frmZ s.data.toList = n) (hs : s.size ≤ 1000000) :
    ∀ W, Calls Tryd.prog 74 #[.string s] W fun e w' => e = .returned (.int .i64 n) ∧ W = w' := fun W => by
  have := form_any s W hs
  rwa [h] at this
theorem check_is (s : ByteArray) (n : Int) (h : chkZ s.data.toList = n) (hs : s.size ≤ 1000000) :
    ∀ W, Calls Tryd.prog 75 #[.string s] W fun e w' => e = .returned (.int .i64 n) ∧ W = w' := fun W => by
  have := check_same s W hs
  rwa [h] at this
theorem frmZ_12 {l : List UInt8} (h : chkZ l = 12) : frmZ l = 12 := by unfold frmZ; rw [if_pos h]
theorem frmZ_0 {l : List UInt8} (h : chkZ l ≠ 12) : frmZ l = 0 := by unfold frmZ; rw [if_neg h]

theorem qrat_int (s : ByteArray) (w : World) (hs : s.size ≤ 100000) (h : slN s.data.toList = s.data.toList.length) :
    Calls Tryd.prog 63 #[.string s] w (ErrPost w (chkR s.data.toList)) := by
  have HW : Hid (Calls Tryd.prog 73 #[.string s] w (CutPost w s ByteArray.empty false)) := split_of _ _ _ _ w (cut_of _ _ _ _ w (scut_none s w h))
  rw [chkR_int h]
  rcases chkZ_three s.data.toList with e | e | e <;> rw [e]
  · exact qc_i0 s s _ (form_is s 0 (frmZ_0 (by omega)) (by omega)) (check_is s 0 e (by omega)) w HW
  · exact qc_n s s _ _ (form_is s 12 (frmZ_12 e) (by omega)) w HW
  · exact qc_i14 s s _ (form_is s 0 (frmZ_0 (by omega)) (by omega)) (check_is s 14 e (by omega)) w HW

theorem qrat_frac (s : ByteArray) (k : Nat) (w : World) (hs : s.size ≤ 100000) (h : slN s.data.toList = k) (hk : k < s.size) :
    Calls Tryd.prog 63 #[.string s] w (ErrPost w (chkR s.data.toList)) := by
  rw [chkR_frac h (by rw [data_len]; exact hk)]
  have HW0 : Calls Tryd.prog 73 #[.string s] w (CutPost w (s.extract 0 k) (s.extract (k + 1) s.size) true) := split_of _ _ _ _ w (cut_of _ _ _ _ w (scut_at s k w (by omega) h hk))
  obtain ⟨n, hn⟩ : ∃ n, n = s.extract 0 k := ⟨_, rfl⟩
  obtain ⟨d, hd⟩ : ∃ d, d = s.extract (k + 1) s.size := ⟨_, rfl⟩
  rw [← hn, ← hd] at HW0
  have en : s.data.toList.take k = n.data.toList := by rw [hn, Lib.extract_data]; simp
  have ed : s.data.toList.drop (k + 1) = d.data.toList := by rw [hd, Lib.extract_to_end]
  rw [en, ed]
  have sn : n.size ≤ 100000 := by rw [hn]; simp; omega
  have sd : d.size ≤ 100000 := by rw [hd]; simp; omega
  have HW := Lib.hid HW0
  clear HW0 hn hd en ed h hk
  by_cases n12 : chkZ n.data.toList = 12
  · rw [chkF_12 (.inl n12)]
    exact qc_n s n d _ (form_is n 12 (frmZ_12 n12) (by omega)) w HW
  have FN := Lib.hid (form_is n 0 (frmZ_0 n12) (by omega))
  by_cases d12 : chkZ d.data.toList = 12
  · rw [chkF_12 (.inr (.inl d12))]
    exact qc_d s n d FN (form_is d 12 (frmZ_12 d12) (by omega)) w HW
  have FD := Lib.hid (form_is d 0 (frmZ_0 d12) (by omega))
  have h0 : 0 < d.size := by
    rcases Nat.eq_zero_or_pos d.size with e | e
    · refine absurd ?_ d12
      have : d.data.toList = [] := List.eq_nil_of_length_eq_zero (by rw [data_len]; exact e)
      rw [this]
      rcases chkZ_cases [] with h | ⟨z, _, h, _⟩
      · exact h.1
      · unfold txtZ at h
        split at h
        · cases h
        · exact absurd h.symm (txtN_ne _)
    · exact e
  cases hm : ((d[0].toNat : Int) == 45) with
  | true =>
    rw [chkF_12 (.inr (.inr (.inl (head_of h0 (n := 45) (by omega) hm))))]
    exact qc_m s n d FN FD h0 hm w HW
  | false =>
    have hm' := head_not h0 (n := 45) (by omega) hm
    cases d0 : (d.toList == [48]) with
    | true =>
      rw [chkF_12 (.inr (.inr (.inr (.inl (by rw [toList_data] at d0; simpa using d0)))))]
      exact qc_0 s n d FN FD h0 hm d0 w HW
    | false =>
      cases d1 : (d.toList == [49]) with
      | true =>
        rw [chkF_12 (.inr (.inr (.inr (.inr (by rw [toList_data] at d1; simpa using d1)))))]
        exact qc_1 s n d FN FD h0 hm d0 d1 w HW
      | false =>
        have d0' : d.data.toList ≠ [48] := by rw [toList_data] at d0; simpa using d0
        have d1' : d.data.toList ≠ [49] := by rw [toList_data] at d1; simpa using d1
        rcases chkZ_cases n.data.toList with ⟨e, _⟩ | ⟨x, _, n2, n3⟩
        · exact absurd e n12
        rcases chkZ_cases d.data.toList with ⟨e, _⟩ | ⟨y, _, d2, d3⟩
        · exact absurd e d12
        have ef : chkF n.data.toList d.data.toList = if bigZ x = true ∨ bigZ y = true then 14 else if Nat.gcd x.natAbs y.natAbs = 1 then 0 else 12 := by
          rw [n2, d2]; exact chkF_some x y (by rw [d2] at hm'; have := mt (txtZ_head y).2 hm'; omega) (by rw [← d2]; exact d0') (by rw [← d2]; exact d1')
        rw [ef]
        cases bx : bigZ x with
        | true =>
          rw [bx, if_pos rfl] at n3
          rw [if_pos (.inl rfl)]
          exact qc_b1 s n d FN FD h0 hm d0 d1 (check_is n 14 n3 (by omega)) w HW
        | false =>
          rw [bx, if_neg (by simp)] at n3
          have CN := Lib.hid (check_is n 0 n3 (by omega))
          cases bb : bigZ y with
          | true =>
            rw [bb, if_pos rfl] at d3
            rw [if_pos (.inr rfl)]
            exact qc_b2 s n d FN FD h0 hm d0 d1 CN (check_is d 14 d3 (by omega)) w HW
          | false =>
            rw [bb, if_neg (by simp)] at d3
            have CD := Lib.hid (check_is d 0 d3 (by omega))
            rw [if_neg (by simp)]
            have HG : Hid (∀ W, Calls Tryd.prog 76 #[.string n, .string d] W (GPost W ⟨(txtZ (Nat.gcd x.natAbs y.natAbs : Int)).toArray⟩)) := fun W => gcd_good n d x y W sn sd n2 d2 bx bb
            by_cases hg : Nat.gcd x.natAbs y.natAbs = 1
            · rw [if_pos hg]
              exact qc_gyes s n d FN FD h0 hm d0 d1 CN CD _ HG (by rw [toList_data, hg]; show ((txtZ ((1 : Nat) : Int)) == [49]) = true; rw [(txtZ_one 1).2 rfl]; rfl) w HW
            · rw [if_neg hg]
              exact qc_gno s n d FN FD h0 hm d0 d1 CN CD _ HG (by rw [toList_data]; exact list_beq.2 (fun h => hg ((txtZ_one _).1 h))) w HW

theorem qrat_any (s : ByteArray) (w : World) (hs : s.size ≤ 100000) :
    Calls Tryd.prog 63 #[.string s] w (ErrPost w (chkR s.data.toList)) := by
  by_cases h : slN s.data.toList < s.size
  · exact qrat_frac s _ w hs rfl h
  · exact qrat_int s w hs (by have := slN_le s.data.toList; rw [data_len] at this ⊢; omega)

end Go.Proofs.YtijkefflpojmhaaDoor

namespace Go.Proofs.YtijkefflpojmhaaDoor

/-- The reference's product: digits are summed without carries, then carried. -/
def DTimIn (a b out : List Nat) (i j : Nat) : Prop :=
  out.length = a.length + b.length ∧ dval out = dval (a.take i) * dval b + 10 ^ i * (a.getD i 0 * dval (b.take j)) ∧ (∀ k, out.getD k 0 ≤ 81 * i + if i ≤ k ∧ k < i + j then 81 else 0)
def DTimAt (a b out : List Nat) (i : Nat) : Prop :=
  out.length = a.length + b.length ∧ dval out = dval (a.take i) * dval b ∧ (∀ k, out.getD k 0 ≤ 81 * i)
theorem getD_set' (l : List Nat) (k j d : Nat) (h : k < l.length) : (l.set k d).getD j 0 = if j = k then d else l.getD j 0 := by
  rw [List.getD_eq_getElem?_getD, List.getElem?_set, List.getD_eq_getElem?_getD]
  by_cases e : k = j
  · subst e; simp [h]
  · rw [if_neg e, if_neg (by omega)]
theorem dtim_start (a b : List Nat) : DTimAt a b (List.replicate (a.length + b.length) 0) 0 := by
  have e : ∀ k, (List.replicate (a.length + b.length) 0).getD k 0 = 0 := fun k => by
    rw [List.getD_eq_getElem?_getD, List.getElem?_replicate]; split <;> rfl
  refine ⟨by simp, ?_, fun k => by rw [e]; omega⟩
  have := dval_ext (List.replicate (a.length + b.length) 0) [] (fun j => by rw [e]; simp)
  rw [this]; simp [dval]
theorem dtim_in_start {a b out : List Nat} {i : Nat} (h : DTimAt a b out i) : DTimIn a b out i 0 := by
  refine ⟨h.1, by rw [h.2.1]; simp [dval], fun k => ?_⟩
  have := h.2.2 k; split <;> omega
theorem dtim_step {a b out : List Nat} {i j : Nat} (h : DTimIn a b out i j) (hi : i < a.length) (hj : j < b.length) (da : ∀ x ∈ a, x < 10) (db : ∀ x ∈ b, x < 10) :
    DTimIn a b (out.set (i + j) (out.getD (i + j) 0 + a.getD i 0 * b.getD j 0)) i (j + 1) := by
  obtain ⟨h1, h2, h3⟩ := h
  refine ⟨by simp [h1], ?_, fun k => ?_⟩
  · have hs := dval_set out (i + j) (out.getD (i + j) 0 + a.getD i 0 * b.getD j 0) (by omega)
    have ht := dval_take_succ b j
    rw [ht, Nat.mul_add, Nat.mul_add]
    have e : 10 ^ (i + j) * (a.getD i 0 * b.getD j 0) = 10 ^ i * (a.getD i 0 * (10 ^ j * b.getD j 0)) := by rw [Nat.pow_add]; simp only [Nat.mul_assoc, Nat.mul_left_comm]
    rw [Nat.mul_add, h2, e] at hs
    omega
  · have ea := digD_lt a i da
    have eb := digD_lt b j db
    have em : a.getD i 0 * b.getD j 0 ≤ 9 * 9 := Nat.mul_le_mul (by omega) (by omega)
    have hk := h3 k
    have hk' := h3 (i + j)
    rw [if_neg (by omega)] at hk'
    rw [getD_set' _ _ _ _ (by omega)]
    by_cases e : k = i + j
    · subst e; rw [if_pos rfl, if_pos (by omega)]; omega
    · rw [if_neg e]
      split at hk <;> split <;> omega
theorem dtim_in_end {a b out : List Nat} {i : Nat} (h : DTimIn a b out i b.length) : DTimAt a b out (i + 1) := by
  obtain ⟨h1, h2, h3⟩ := h
  refine ⟨h1, ?_, fun k => ?_⟩
  · rw [h2, List.take_length, dval_take_succ, Nat.add_mul, Nat.mul_assoc]
  · have := h3 k; split at this <;> omega
theorem dtim_end {a b out : List Nat} (h : DTimAt a b out a.length) : out.length = a.length + b.length ∧ dval out = dval a * dval b ∧ ∀ k, out.getD k 0 ≤ 81 * a.length := by
  obtain ⟨h1, h2, h3⟩ := h
  rw [List.take_length] at h2
  exact ⟨h1, h2, h3⟩
/-- The carries: the places below i are digits. -/
def DCarAt (n V : Nat) (out : List Nat) (i : Nat) : Prop :=
  dval out = V ∧ (∀ k, k < i → out.getD k 0 < 10) ∧ (∀ k, i ≤ k → out.getD k 0 ≤ 81 * n + if k = i then 9 * n + 1 else 0)
theorem dcar_start {n V : Nat} {out : List Nat} (h : dval out = V) (h1 : ∀ k, out.getD k 0 ≤ 81 * n) : DCarAt n V out 0 :=
  ⟨h, fun k hk => by omega, fun k _ => by have := h1 k; omega⟩
theorem dcar_step {n V : Nat} {out : List Nat} {i : Nat} (h : DCarAt n V out i) (hi : i + 1 < out.length) :
    DCarAt n V ((out.set (i + 1) (out.getD (i + 1) 0 + out.getD i 0 / 10)).set i (out.getD i 0 % 10)) (i + 1) := by
  obtain ⟨h1, h2, h3⟩ := h
  refine ⟨?_, fun k hk => ?_, fun k hk => ?_⟩
  · have a := dval_set out (i + 1) (out.getD (i + 1) 0 + out.getD i 0 / 10) hi
    have b := dval_set (out.set (i + 1) (out.getD (i + 1) 0 + out.getD i 0 / 10)) i (out.getD i 0 % 10) (by simp; omega)
    rw [getD_set' _ _ _ _ hi, if_neg (by omega)] at b
    rw [Nat.mul_add, Nat.pow_succ] at a
    have e : 10 ^ i * out.getD i 0 = 10 ^ i * 10 * (out.getD i 0 / 10) + 10 ^ i * (out.getD i 0 % 10) := by
      rw [Nat.mul_assoc, ← Nat.mul_add, Nat.div_add_mod]
    omega
  · rw [getD_set' _ _ _ _ (by simp; omega), getD_set' _ _ _ _ hi]
    by_cases e : k = i
    · rw [if_pos e]; omega
    · rw [if_neg e, if_neg (by omega)]; exact h2 k (by omega)
  · rw [getD_set' _ _ _ _ (by simp; omega), getD_set' _ _ _ _ hi, if_neg (by omega)]
    have a := h3 i (by omega)
    have b := h3 k (by omega)
    rw [if_neg (by omega)] at b
    rw [if_pos rfl] at a
    by_cases e : k = i + 1
    · subst e
      rw [if_pos rfl, if_pos rfl]; omega
    · rw [if_neg e, if_neg e]; exact b
theorem dcar_end {n V : Nat} {out : List Nat} (h : DCarAt n V out (out.length - 1)) (hV : V < 10 ^ out.length) : ∀ x ∈ out, x < 10 := by
  obtain ⟨h1, h2, h3⟩ := h
  have key : ∀ k, out.getD k 0 < 10 := by
    intro k
    by_cases hk : k < out.length - 1
    · exact h2 k hk
    · by_cases hk2 : k < out.length
      · have e : k = out.length - 1 := by omega
        subst e
        have a := dval_split out (out.length - 1)
        have b := dval_drop out (out.length - 1)
        have c : out.length = out.length - 1 + 1 := by omega
        have d : dval (out.drop (out.length - 1 + 1)) = 0 := by rw [List.drop_of_length_le (by omega)]; rfl
        rw [d] at b
        rw [b, h1] at a
        rw [c, Nat.pow_succ] at hV
        simp only [Nat.mul_zero, Nat.add_zero] at a
        rcases Nat.lt_or_ge (out.getD (out.length - 1) 0) 10 with h | h
        · exact h
        · have := Nat.mul_le_mul_left (10 ^ (out.length - 1)) h
          omega
      · rw [List.getD_eq_getElem?_getD, List.getElem?_eq_none (by omega)]; simp
  intro x hx
  obtain ⟨k, hk, rfl⟩ := List.getElem_of_mem hx
  have := key k
  rwa [List.getD_eq_getElem?_getD, List.getElem?_eq_getElem hk] at this
/-- Leap years, months, days: plain. -/
def leapB (y : Nat) : Bool := decide (y % 4 = 0 ∧ (y % 100 ≠ 0 ∨ y % 400 = 0))
def longN (y m : Nat) : Nat := if m = 4 ∨ m = 6 ∨ m = 9 ∨ m = 11 then 30 else if m = 2 then (if leapB y = true then 29 else 28) else 31
theorem longN_ge (y m : Nat) : 28 ≤ longN y m := by unfold longN; split <;> (try split) <;> (try split) <;> omega
theorem longN_le (y m : Nat) : longN y m ≤ 31 := by unfold longN; split <;> (try split) <;> (try split) <;> omega
/-- The day on which a year begins. -/
def leapsN (y : Nat) : Nat := y / 4 - y / 100 + y / 400
def yd (y : Nat) : Nat := 365 * (y - 1900) + (leapsN (y - 1) - 460)
theorem leaps_succ (y : Nat) : leapsN (y + 1) = leapsN y + if leapB (y + 1) = true then 1 else 0 := by
  unfold leapsN leapB
  simp only [decide_eq_true_eq]
  split <;> omega
theorem leaps_ge {y : Nat} (_h : 1899 ≤ y) : 460 ≤ leapsN y := by
  induction y with
  | zero => omega
  | succ y ih =>
    rcases Nat.lt_or_ge y 1899 with h' | h'
    · have : y = 1898 := by omega
      subst this; decide
    · have := ih h'; have := leaps_succ y; omega
theorem yd_start : yd 1900 = 0 := by decide
theorem yd_succ {y : Nat} (h : 1900 ≤ y) : yd (y + 1) = yd y + 365 + if leapB y = true then 1 else 0 := by
  obtain ⟨k, rfl⟩ : ∃ k, y = k + 1 := ⟨y - 1, by omega⟩
  have := leaps_ge (y := k) (by omega)
  unfold yd
  simp only [Nat.add_sub_cancel]
  rw [leaps_succ k]
  split <;> omega
theorem yd_ge {y : Nat} (_h : 1900 ≤ y) : 365 * (y - 1900) ≤ yd y := by unfold yd; omega
theorem yd_le (k : Nat) : yd (1900 + k) ≤ 366 * k := by
  induction k with
  | zero => decide
  | succ k ih =>
    have := yd_succ (y := 1900 + k) (by omega)
    rw [show 1900 + (k + 1) = 1900 + k + 1 by omega, this]
    split <;> omega
theorem yd_mono {a b : Nat} (h : 1900 ≤ a) (hab : a ≤ b) : yd a ≤ yd b := by
  induction b with
  | zero => omega
  | succ b ih =>
    rcases Nat.lt_or_ge b a with h' | h'
    · have : a = b + 1 := by omega
      subst this; exact Nat.le_refl _
    · have := ih h'; have := yd_succ (y := b) (by omega); omega
/-- The days of the first so many months. -/
def mdR (y : Nat) : Nat → Nat
  | 0 => 0
  | m + 1 => mdR y m + longN y (m + 1)
theorem mdR_mono (y : Nat) {a b : Nat} (h : a ≤ b) : mdR y a ≤ mdR y b := by
  induction b with
  | zero => have : a = 0 := by omega
            subst this; exact Nat.le_refl _
  | succ b ih =>
    rcases Nat.lt_or_ge b a with h' | h'
    · have : a = b + 1 := by omega
      subst this; exact Nat.le_refl _
    · have := ih h'; show _ ≤ mdR y b + _; omega
theorem mdR_12 (y : Nat) : mdR y 12 = 365 + if leapB y = true then 1 else 0 := by
  have e : ∀ m, longN y m = if m = 4 ∨ m = 6 ∨ m = 9 ∨ m = 11 then 30 else if m = 2 then (if leapB y = true then 29 else 28) else 31 := fun m => rfl
  simp only [mdR]
  simp only [e]
  cases leapB y <;> simp
theorem yd_year {y : Nat} (h : 1900 ≤ y) : yd (y + 1) = yd y + mdR y 12 := by rw [yd_succ h, mdR_12]; omega
/-- The date of a day. -/
def DateIs (day y m d : Nat) : Prop := 1900 ≤ y ∧ 1 ≤ m ∧ m ≤ 12 ∧ 1 ≤ d ∧ d ≤ longN y m ∧ yd y + mdR y (m - 1) + d = day + 1
theorem DateIs.lt {day y m d : Nat} (h : DateIs day y m d) : yd y ≤ day ∧ day < yd (y + 1) := by
  obtain ⟨h1, h2, h3, h4, h5, h6⟩ := h
  obtain ⟨k, rfl⟩ : ∃ k, m = k + 1 := ⟨m - 1, by omega⟩
  have a := mdR_mono y (a := k + 1) (b := 12) h3
  rw [yd_year h1]
  simp only [Nat.add_sub_cancel] at h6
  change mdR y k + longN y (k + 1) ≤ _ at a
  omega
theorem DateIs.unique {day y m d y' m' d' : Nat} (h : DateIs day y m d) (h' : DateIs day y' m' d') : y = y' ∧ m = m' ∧ d = d' := by
  have a := h.lt
  have b := h'.lt
  have ey : y = y' := by
    rcases Nat.lt_trichotomy y y' with e | e | e
    · have := yd_mono (a := y + 1) (b := y') (by have := h.1; omega) (by omega); omega
    · exact e
    · have := yd_mono (a := y' + 1) (b := y) (by have := h'.1; omega) (by omega); omega
  subst ey
  obtain ⟨h1, h2, h3, h4, h5, h6⟩ := h
  obtain ⟨g1, g2, g3, g4, g5, g6⟩ := h'
  obtain ⟨k, rfl⟩ : ∃ k, m = k + 1 := ⟨m - 1, by omega⟩
  obtain ⟨j, rfl⟩ : ∃ j, m' = j + 1 := ⟨m' - 1, by omega⟩
  simp only [Nat.add_sub_cancel] at h6 g6
  have em : k = j := by
    rcases Nat.lt_trichotomy k j with e | e | e
    · have := mdR_mono y (a := k + 1) (b := j) (by omega)
      change mdR y k + longN y (k + 1) ≤ _ at this; omega
    · exact e
    · have := mdR_mono y (a := j + 1) (b := k) (by omega)
      change mdR y j + longN y (j + 1) ≤ _ at this; omega
  subst em
  exact ⟨rfl, rfl, by omega⟩
/-- The program's loops. -/
theorem prog_year_start (day : Nat) : yd (1900 + day / 366) ≤ day := by have := yd_le (day / 366); omega
/-- After the years: a month m with d days left. -/
def MonAt (day y m d : Nat) : Prop := 1900 ≤ y ∧ 1 ≤ m ∧ m ≤ 12 ∧ 1 ≤ d ∧ yd y + mdR y (m - 1) + d = day + 1 ∧ day < yd (y + 1)
theorem mon_start {day y : Nat} (h : 1900 ≤ y) (h1 : yd y ≤ day) (h2 : day < yd (y + 1)) : MonAt day y 1 (day - yd y + 1) := ⟨h, by omega, by omega, by omega, by show yd y + 0 + _ = _; omega, h2⟩
theorem mon_step {day y m d : Nat} (h : MonAt day y m d) (hd : longN y m < d) : MonAt day y (m + 1) (d - longN y m) ∧ m < 12 := by
  obtain ⟨h1, h2, h3, h4, h5, h6⟩ := h
  obtain ⟨k, rfl⟩ : ∃ k, m = k + 1 := ⟨m - 1, by omega⟩
  simp only [Nat.add_sub_cancel] at h5
  have hm : k + 1 < 12 := by
    rcases Nat.lt_or_ge (k + 1) 12 with h | h
    · exact h
    · have : k = 11 := by omega
      subst this
      have e : mdR y 12 = mdR y 11 + longN y 12 := rfl
      have hd' : longN y 12 < d := hd
      rw [yd_year h1] at h6; omega
  refine ⟨⟨h1, by omega, by omega, by omega, ?_, h6⟩, hm⟩
  show yd y + (mdR y k + longN y (k + 1)) + _ = _
  omega
theorem mon_end {day y m d : Nat} (h : MonAt day y m d) (hd : d ≤ longN y m) : DateIs day y m d := ⟨h.1, h.2.1, h.2.2.1, h.2.2.2.1, hd, h.2.2.2.2.1⟩
/-- The reference's loop. -/
def RefAt (day y m r : Nat) : Prop := 1900 ≤ y ∧ 1 ≤ m ∧ m ≤ 12 ∧ yd y + mdR y (m - 1) + r = day
theorem ref_start (day : Nat) : RefAt day 1900 1 day := ⟨by omega, by omega, by omega, by rw [yd_start]; show 0 + 0 + day = _; omega⟩
theorem ref_month {day y m r : Nat} (h : RefAt day y m r) (hr : longN y m ≤ r) (hm : m < 12) : RefAt day y (m + 1) (r - longN y m) := by
  obtain ⟨h1, h2, h3, h4⟩ := h
  obtain ⟨k, rfl⟩ : ∃ k, m = k + 1 := ⟨m - 1, by omega⟩
  simp only [Nat.add_sub_cancel] at h4
  refine ⟨h1, by omega, by omega, ?_⟩
  show yd y + (mdR y k + longN y (k + 1)) + _ = _
  omega
theorem ref_year {day y r : Nat} (h : RefAt day y 12 r) (hr : longN y 12 ≤ r) : RefAt day (y + 1) 1 (r - longN y 12) := by
  obtain ⟨h1, h2, h3, h4⟩ := h
  have e : mdR y 12 = mdR y 11 + longN y 12 := rfl
  refine ⟨by omega, by omega, by omega, ?_⟩
  rw [yd_year h1]
  show _ + 0 + _ = _
  simp only [show 12 - 1 = 11 from rfl] at h4
  omega
theorem ref_end {day y m r : Nat} (h : RefAt day y m r) (hr : r < longN y m) : DateIs day y m (r + 1) := ⟨h.1, h.2.1, h.2.2.1, by omega, by omega, by have := h.2.2.2; omega⟩
theorem RefAt.small {day y m r : Nat} (h : RefAt day y m r) (hd : day ≤ 99999) : y ≤ 2174 ∧ r ≤ day := by
  obtain ⟨h1, h2, h3, h4⟩ := h
  have := yd_ge h1
  omega
theorem DateIs.small {day y m d : Nat} (h : DateIs day y m d) (hd : day ≤ 99999) : y ≤ 2174 ∧ d ≤ 31 := by
  have a := yd_ge h.1
  have b := h.lt
  have c := longN_le y m
  have e := h.2.2.2.2.1
  omega
/-- The date that a day has. -/
theorem date_exists (day : Nat) : ∃ y m d, DateIs day y m d := by
  have key : ∀ r, ∀ y m, RefAt day y m r → ∃ y m d, DateIs day y m d := by
    intro r
    induction r using Nat.strongRecOn with
    | _ r ih =>
      intro y m h
      by_cases hr : r < longN y m
      · exact ⟨y, m, r + 1, ref_end h hr⟩
      · have hg := longN_ge y m
        by_cases hm : m < 12
        · exact ih _ (by omega) _ _ (ref_month h (by omega) hm)
        · have : m = 12 := by have := h.2.2.1; omega
          subst this
          exact ih _ (by omega) _ _ (ref_year h (by omega))
  exact key day 1900 1 (ref_start day)
/-- A number in so many digits, the first one first. -/
def figB (n : Nat) : Nat → List UInt8
  | 0 => []
  | k + 1 => figB (n / 10) k ++ [UInt8.ofNat (48 + n % 10)]
theorem figB_len (n k : Nat) : (figB n k).length = k := by
  induction k generalizing n with
  | zero => rfl
  | succ k ih => simp [figB, ih]
/-- The loop that goes from the back. -/
def FigAt (n many : Nat) (s : List UInt8) (i m : Nat) : Prop := i ≤ many ∧ figB n many = figB m (many - i) ++ s
theorem fig_start (n many : Nat) : FigAt n many [] 0 n := ⟨by omega, by simp⟩
theorem fig_step {n many : Nat} {s : List UInt8} {i m : Nat} (h : FigAt n many s i m) (hi : i < many) : FigAt n many (UInt8.ofNat (48 + m % 10) :: s) (i + 1) (m / 10) := by
  obtain ⟨h1, h2⟩ := h
  refine ⟨hi, ?_⟩
  rw [h2]
  obtain ⟨k, hk⟩ : ∃ k, many - i = k + 1 := ⟨many - i - 1, by omega⟩
  rw [hk, show many - (i + 1) = k by omega, figB]
  simp
theorem fig_end {n many : Nat} {s : List UInt8} {m : Nat} (h : FigAt n many s many m) : s = figB n many := by
  rw [h.2]; simp [figB]
/-- The text of a date. -/
def dateB (y m d : Nat) : List UInt8 := figB y 4 ++ [45] ++ figB m 2 ++ [45] ++ figB d 2
theorem dateB_len (y m d : Nat) : (dateB y m d).length = 10 := by simp [dateB, figB_len]
/-- Names. -/
def letB (c : UInt8) : Bool := decide ((97 ≤ c.toNat ∧ c.toNat ≤ 122) ∨ (65 ≤ c.toNat ∧ c.toNat ≤ 90))
def othB (c : UInt8) : Bool := decide ((48 ≤ c.toNat ∧ c.toNat ≤ 57) ∨ c.toNat = 95 ∨ c.toNat = 45)
def nmB (l : List UInt8) : Bool := decide (1 ≤ l.length ∧ l.length ≤ 40) && (match l.head? with | some c => letB c | none => false) && l.all fun c => letB c || othB c
theorem nmB_len {l : List UInt8} (h : l.length < 1 ∨ 40 < l.length) : nmB l = false := by
  unfold nmB
  rw [show decide (1 ≤ l.length ∧ l.length ≤ 40) = false by simp; omega]; rfl
theorem nmB_head {l : List UInt8} {c : UInt8} (h : l.head? = some c) (hc : letB c = false) : nmB l = false := by
  unfold nmB; rw [h]; simp [hc]
theorem nmB_bad {l : List UInt8} {c : UInt8} (h : c ∈ l) (h1 : letB c = false) (h2 : othB c = false) : nmB l = false := by
  unfold nmB
  have : (l.all fun c => letB c || othB c) = false := by
    rw [List.all_eq_false]; exact ⟨c, h, by simp [h1, h2]⟩
  rw [this]; simp
theorem nmB_ok {l : List UInt8} {c : UInt8} (h1 : 1 ≤ l.length) (h2 : l.length ≤ 40) (h : l.head? = some c) (hc : letB c = true) (ha : ∀ x ∈ l, (letB x || othB x) = true) : nmB l = true := by
  unfold nmB; rw [h]; simp only [hc, Bool.and_true, Bool.and_eq_true, decide_eq_true_eq, List.all_eq_true]
  exact ⟨⟨h1, h2⟩, ha⟩
theorem letB_lo {c : UInt8} (h : c.toNat < 65) : letB c = false := by unfold letB; simp; omega
theorem letB_cap {c : UInt8} (h : 65 ≤ c.toNat) (h2 : c.toNat ≤ 90) : letB c = true := by unfold letB; simp; omega
theorem letB_mid {c : UInt8} (h : 90 < c.toNat) (h2 : c.toNat < 97) : letB c = false := by unfold letB; simp; omega
theorem letB_small {c : UInt8} (h : 97 ≤ c.toNat) (h2 : c.toNat ≤ 122) : letB c = true := by unfold letB; simp; omega
theorem letB_hi {c : UInt8} (h : 122 < c.toNat) : letB c = false := by unfold letB; simp; omega

end Go.Proofs.YtijkefflpojmhaaDoor

namespace Go.Proofs.YtijkefflpojmhaaDoor
open Go.RowKit

set_option maxHeartbeats 1000000 in
set_option maxRecDepth 100000 in
theorem letter_any (c : UInt8) (w : World) : Calls Tryd.prog 41 #[.int .u8 (c.toNat : Int)] w fun e w' => e = .returned (.bool (letB c)) ∧ w = w' := by
  have hc : c.toNat < 65 ∨ (65 ≤ c.toNat ∧ c.toNat ≤ 90) ∨ (90 < c.toNat ∧ c.toNat < 97) ∨ (97 ≤ c.toNat ∧ c.toNat ≤ 122) ∨ 122 < c.toNat := by omega
  rcases hc with h | ⟨h, h'⟩ | ⟨h, h'⟩ | ⟨h, h'⟩ | h
  · rw [letB_lo h]
    go_enter Tryd.func41, Tryd.ntmps41
    go_wp2
    go_ret
    exact ⟨ret_bool (by first | rfl | (simp; omega)), rfl⟩
  · rw [letB_cap h h']
    go_enter Tryd.func41, Tryd.ntmps41
    go_wp2
    go_ret
    exact ⟨ret_bool (by first | rfl | (simp; omega)), rfl⟩
  · rw [letB_mid h h']
    go_enter Tryd.func41, Tryd.ntmps41
    go_wp2
    go_ret
    exact ⟨ret_bool (by first | rfl | (simp; omega)), rfl⟩
  · rw [letB_small h h']
    go_enter Tryd.func41, Tryd.ntmps41
    go_wp2
    go_ret
    exact ⟨ret_bool (by first | rfl | (simp; omega)), rfl⟩
  · rw [letB_hi h]
    go_enter Tryd.func41, Tryd.ntmps41
    go_wp2
    go_ret
    exact ⟨ret_bool (by first | rfl | (simp; omega)), rfl⟩
theorem letter_is {c : UInt8} {b : Bool} (h : letB c = b) (w : World) : Calls Tryd.prog 41 #[.int .u8 (c.toNat : Int)] w fun e w' => e = .returned (.bool b) ∧ w = w' := h ▸ letter_any c w

/-- The loop over a name's bytes: what it knows. -/
def NmR (s : ByteArray) (i : Value) : Prop := ∃ k : Nat, k ≤ s.size ∧ i = .int .i64 k ∧ ∀ c ∈ s.data.toList.take k, (letB c || othB c) = true
theorem nmR_start (s : ByteArray) : NmR s (.int .i64 0) := ⟨0, Nat.zero_le _, rfl, by simp⟩
theorem nmR_next (s : ByteArray) (k : Nat) (hk : k < s.size) (h : ∀ c ∈ s.data.toList.take k, (letB c || othB c) = true) (h1 : (letB s[k] || othB s[k]) = true) :
    ∀ c ∈ s.data.toList.take (k + 1), (letB c || othB c) = true := by
  rw [data_take s k hk]
  intro c hc
  rcases List.mem_append.1 hc with hc | hc
  · exact h c hc
  · rw [List.mem_singleton.1 hc]; exact h1

set_option maxHeartbeats 1000000 in
set_option maxRecDepth 100000 in
theorem name_loop (s : ByteArray) (w : World) (h0 : 0 < s.size) (h4 : s.size ≤ 40) (h1 : letB s[0] = true) :
    Calls Tryd.prog 24 #[.string s] w fun e w' => e = .returned (.bool (nmB s.data.toList)) ∧ w = w' := by
  have HL := Lib.hid (fun W => letter_is h1 W)
  have HA : Hid ((∀ x ∈ s.data.toList, (letB x || othB x) = true) → nmB s.data.toList = true) := fun h => nmB_ok (by rw [data_len]; omega) (by rw [data_len]; omega) (data_head s h0) h1 h
  clear h1
  go_enter Tryd.func24, Tryd.ntmps24
  go_wp2_with fail
  refine (HL.out _).mono ?_
  rintro e w' ⟨rfl, rfl⟩
  go_wp2_with fail
  go_loop [21] (fun i => NmR s i) (fun i => s.size - (intOf i).toNat)
  case atStart => exact nmR_start s
  case round =>
    obtain ⟨k, hk, rfl, hd⟩ := hrel
    have HD := Lib.hid hd
    clear hd HL
    by_cases hlt : k < s.size
    · cases hb : letB s[k] with
      | true =>
        have HN := Lib.hid (nmR_next s k hlt HD.out (by rw [hb]; rfl))
        have HB := Lib.hid (fun W => letter_is hb W)
        clear hb HA HD
        go_wp2_with fail
        refine (HB.out _).mono ?_
        rintro e w' ⟨rfl, rfl⟩
        go_wp2_with fail
        go_round
        case rel => exact ⟨k + 1, by omega, by go_num, HN.out⟩
        case measure => simp [intOf]; omega
      | false =>
        have HB := Lib.hid (fun W => letter_is hb W)
        cases ho : othB s[k] with
        | true =>
          have HN := Lib.hid (nmR_next s k hlt HD.out (by rw [ho]; simp))
          have hc : (48 ≤ s[k].toNat ∧ s[k].toNat ≤ 57) ∨ (95 ≤ s[k].toNat ∧ s[k].toNat ≤ 95) ∨ (45 ≤ s[k].toNat ∧ s[k].toNat ≤ 45) := by unfold othB at ho; simp at ho; omega
          clear hb ho HA HD
          rcases hc with ⟨c1, c2⟩ | ⟨c1, c2⟩ | ⟨c1, c2⟩
          · have p48 : (decide ((s[k].toNat : Int) < 48)) = false := by simp; omega
            have p57 : (decide ((57 : Int) < (s[k].toNat : Int))) = false := by simp; omega
            have e95 : ((s[k].toNat : Int) != 95) = true := by simp; omega
            have e45 : ((s[k].toNat : Int) != 45) = true := by simp; omega
            clear c1 c2
            go_wp2_with fail
            refine (HB.out _).mono ?_
            rintro e w' ⟨rfl, rfl⟩
            go_wp2
            go_round
            case rel => exact ⟨k + 1, by omega, by go_num, HN.out⟩
            case measure => simp [intOf]; omega
          · have p48 : (decide ((s[k].toNat : Int) < 48)) = false := by simp; omega
            have p57 : (decide ((57 : Int) < (s[k].toNat : Int))) = true := by simp; omega
            have e95 : ((s[k].toNat : Int) != 95) = false := by simp; omega
            have e45 : ((s[k].toNat : Int) != 45) = true := by simp; omega
            clear c1 c2
            go_wp2_with fail
            refine (HB.out _).mono ?_
            rintro e w' ⟨rfl, rfl⟩
            go_wp2
            go_round
            case rel => exact ⟨k + 1, by omega, by go_num, HN.out⟩
            case measure => simp [intOf]; omega
          · have p48 : (decide ((s[k].toNat : Int) < 48)) = true := by simp; omega
            have p57 : (decide ((57 : Int) < (s[k].toNat : Int))) = false := by simp; omega
            have e95 : ((s[k].toNat : Int) != 95) = true := by simp; omega
            have e45 : ((s[k].toNat : Int) != 45) = false := by simp; omega
            clear c1 c2
            go_wp2_with fail
            refine (HB.out _).mono ?_
            rintro e w' ⟨rfl, rfl⟩
            go_wp2
            go_round
            case rel => exact ⟨k + 1, by omega, by go_num, HN.out⟩
            case measure => simp [intOf]; omega
        | false =>
          have e4 := Lib.hid (nmB_bad (data_mem s k hlt) hb ho)
          have hc : (0 ≤ s[k].toNat ∧ s[k].toNat ≤ 44) ∨ (46 ≤ s[k].toNat ∧ s[k].toNat ≤ 47) ∨ (58 ≤ s[k].toNat ∧ s[k].toNat ≤ 94) ∨ (96 ≤ s[k].toNat ∧ s[k].toNat ≤ 255) := by
            have := s[k].toNat_lt
            unfold othB at ho; simp at ho; omega
          clear hb ho HA HD
          rcases hc with ⟨c1, c2⟩ | ⟨c1, c2⟩ | ⟨c1, c2⟩ | ⟨c1, c2⟩
          · have p48 : (decide ((s[k].toNat : Int) < 48)) = true := by simp; omega
            have p57 : (decide ((57 : Int) < (s[k].toNat : Int))) = false := by simp; omega
            have e95 : ((s[k].toNat : Int) != 95) = true := by simp; omega
            have e45 : ((s[k].toNat : Int) != 45) = true := by simp; omega
            clear c1 c2
            go_wp2_with fail
            refine (HB.out _).mono ?_
            rintro e w' ⟨rfl, rfl⟩
            go_wp2
            go_ret
            exact ⟨ret_bool e4.out.symm, rfl⟩
          · have p48 : (decide ((s[k].toNat : Int) < 48)) = true := by simp; omega
            have p57 : (decide ((57 : Int) < (s[k].toNat : Int))) = false := by simp; omega
            have e95 : ((s[k].toNat : Int) != 95) = true := by simp; omega
            have e45 : ((s[k].toNat : Int) != 45) = true := by simp; omega
            clear c1 c2
            go_wp2_with fail
            refine (HB.out _).mono ?_
            rintro e w' ⟨rfl, rfl⟩
            go_wp2
            go_ret
            exact ⟨ret_bool e4.out.symm, rfl⟩
          · have p48 : (decide ((s[k].toNat : Int) < 48)) = false := by simp; omega
            have p57 : (decide ((57 : Int) < (s[k].toNat : Int))) = true := by simp; omega
            have e95 : ((s[k].toNat : Int) != 95) = true := by simp; omega
            have e45 : ((s[k].toNat : Int) != 45) = true := by simp; omega
            clear c1 c2
            go_wp2_with fail
            refine (HB.out _).mono ?_
            rintro e w' ⟨rfl, rfl⟩
            go_wp2
            go_ret
            exact ⟨ret_bool e4.out.symm, rfl⟩
          · have p48 : (decide ((s[k].toNat : Int) < 48)) = false := by simp; omega
            have p57 : (decide ((57 : Int) < (s[k].toNat : Int))) = true := by simp; omega
            have e95 : ((s[k].toNat : Int) != 95) = true := by simp; omega
            have e45 : ((s[k].toNat : Int) != 45) = true := by simp; omega
            clear c1 c2
            go_wp2_with fail
            refine (HB.out _).mono ?_
            rintro e w' ⟨rfl, rfl⟩
            go_wp2
            go_ret
            exact ⟨ret_bool e4.out.symm, rfl⟩
    · have e4 := Lib.hid (HA.out (by
        have := HD.out
        rwa [List.take_of_length_le (by rw [data_len]; omega)] at this))
      clear HA HD
      go_wp2
      go_ret
      exact ⟨ret_bool e4.out.symm, rfl⟩

set_option maxHeartbeats 1000000 in
set_option maxRecDepth 100000 in
theorem name_any (s : ByteArray) (w : World) :
    Calls Tryd.prog 24 #[.string s] w fun e w' => e = .returned (.bool (nmB s.data.toList)) ∧ w = w' := by
  by_cases h0 : s.size < 1
  · rw [nmB_len (.inl (by rw [data_len]; exact h0))]
    go_enter Tryd.func24, Tryd.ntmps24
    go_wp2
    go_ret
    exact ⟨rfl, rfl⟩
  by_cases h4 : 40 < s.size
  · rw [nmB_len (.inr (by rw [data_len]; exact h4))]
    go_enter Tryd.func24, Tryd.ntmps24
    go_wp2
    go_ret
    exact ⟨rfl, rfl⟩
  have h0' : 0 < s.size := by omega
  have h4' : s.size ≤ 40 := by omega
  clear h0 h4
  cases h1 : letB (s[0]'h0') with
  | true => exact name_loop s w h0' h4' h1
  | false =>
    rw [nmB_head (data_head s h0') h1]
    have HL := Lib.hid (fun W => letter_is h1 W)
    clear h1
    go_enter Tryd.func24, Tryd.ntmps24
    go_wp2_with fail
    refine (HL.out _).mono ?_
    rintro e w' ⟨rfl, rfl⟩
    go_wp2_with fail
    go_ret
    exact ⟨rfl, rfl⟩

end Go.Proofs.YtijkefflpojmhaaDoor

namespace Go.Proofs.YtijkefflpojmhaaDoor
open Go.RowKit

/-- The sorts of the parts of a kind, and its own. -/
def shpL (k : Int) : Option (List Int × Int) :=
  if k = 4 ∨ k = 5 ∨ k = 6 ∨ k = 7 ∨ k = 8 then some ([1, 1], 1) else if k = 9 then some ([2, 1, 1], 1) else if k = 11 ∨ k = 12 then some ([1, 1], 2) else if k = 13 ∨ k = 14 then some ([2, 2], 2) else if k = 15 then some ([2], 2) else none
def bareB (r n : ByteArray) (d : Int) : Bool := r.data.toList.isEmpty && n.data.toList.isEmpty && d == 0
/-- The sort of a leaf without parts. -/
def leafV (k : Int) (r n : ByteArray) (d : Int) : Int :=
  if k = 1 then (if n.data.toList.isEmpty = true ∧ d = 0 ∧ chkR r.data.toList = 0 then 1 else 0)
  else if k = 2 then (if r.data.toList.isEmpty = true ∧ nmB n.data.toList = true ∧ 0 ≤ d ∧ d ≤ 99999 then 1 else 0)
  else if k = 3 then (if r.data.toList.isEmpty = true ∧ nmB n.data.toList = true ∧ d = 0 then 1 else 0)
  else 0
/-- .. of a kind, its cells and the sorts of its parts. -/
def srtP (k : Int) (r n : ByteArray) (d : Int) (l : List Int) : Int :=
  match shpL k with
  | some (ps, own) => if bareB r n d = true ∧ l = ps then own else 0
  | none => if l = [] then leafV k r n d else 0
def Ex.srt : Ex → Int
  | .mk k r n d l => srtP k r n d (l.attach.map fun x => x.1.srt)
termination_by x => SizeOf.sizeOf x
decreasing_by
  have := List.sizeOf_lt_of_mem x.2
  simp only [Ex.mk.sizeOf_spec]
  omega
theorem Ex.srt_is (x : Ex) : x.srt = srtP x.kind x.rat x.name x.date (x.sub.map Ex.srt) := by
  cases x with
  | mk k r n d l =>
    rw [Ex.srt]
    show _ = srtP k r n d (l.map Ex.srt)
    rw [show (l.attach.map fun x => x.1.srt) = l.map Ex.srt from List.attach_map_val (l := l) (f := Ex.srt)]
theorem leafV_01 (k : Int) (r n : ByteArray) (d : Int) : leafV k r n d = 0 ∨ leafV k r n d = 1 := by
  unfold leafV
  (repeat' split) <;> simp
theorem shpL_own {k : Int} {ps : List Int} {own : Int} (h : shpL k = some (ps, own)) : own = 1 ∨ own = 2 := by
  unfold shpL at h
  (repeat' split at h) <;> simp at h <;> omega
theorem srtP_012 (k : Int) (r n : ByteArray) (d : Int) (l : List Int) : srtP k r n d l = 0 ∨ srtP k r n d l = 1 ∨ srtP k r n d l = 2 := by
  unfold srtP
  split
  · rename_i h
    split
    · exact .inr (shpL_own h)
    · exact .inl rfl
  · split
    · rcases leafV_01 k r n d with h | h <;> rw [h] <;> simp
    · exact .inl rfl
theorem Ex.srt_012 (x : Ex) : x.srt = 0 ∨ x.srt = 1 ∨ x.srt = 2 := by rw [x.srt_is]; exact srtP_012 _ _ _ _ _
theorem mem_srt {ps : List Int} (h : ∀ p ∈ ps, p ≠ 0) {x : Ex} (hx : x.sub.map Ex.srt = ps) {y : Ex} (hy : y ∈ x.sub) : y.srt ≠ 0 := h _ (by rw [← hx]; exact List.mem_map_of_mem hy)
theorem shpL_pos {k : Int} {ps : List Int} {own : Int} (h : shpL k = some (ps, own)) : (∀ p ∈ ps, p ≠ 0) ∧ ps.length ≤ 3 := by
  unfold shpL at h
  (repeat' split at h) <;> simp at h <;> obtain ⟨rfl, _⟩ := h <;> simp

end Go.Proofs.YtijkefflpojmhaaDoor

namespace Go.Proofs.YtijkefflpojmhaaDoor
open Go.RowKit

/-- The cells of an expression whose parts lie in blocks of a kind. -/
def ExOn (S : Nat → Prop) : Nat → World → List Value → Ex → Prop
  | 0, _, _, _ => False
  | n + 1, w, cs, x => ∃ a len cap, cs = [.int .u8 x.kind, .string x.rat, .string x.name, .int .i64 x.date, .slice a len cap] ∧ x.sub.length = len ∧
      (len = 0 ∨ ∃ g, a = some ⟨g, 0, none⟩ ∧ S g ∧ ∀ i (hi : i < x.sub.length), ∃ cs', (∀ j, j < 5 → w.cell? ⟨g, i * 5 + j, none⟩ = cs'[j]?) ∧ ExOn S n w cs' x.sub[i])
theorem ExOn.mono {S S' : Nat → Prop} (hS : ∀ g, S g → S' g) : ∀ {n : Nat} {w : World} {cs : List Value} {x : Ex}, ExOn S n w cs x → ExOn S' n w cs x
  | 0, _, _, _, h => h
  | n + 1, w, cs, x, ⟨a, len, cap, h1, h2, h3⟩ => ⟨a, len, cap, h1, h2, h3.imp id fun ⟨g, ha, hg, hi⟩ => ⟨g, ha, hS g hg, fun i h => by
      obtain ⟨cs', hc, hx⟩ := hi i h
      exact ⟨cs', hc, ExOn.mono hS hx⟩⟩⟩
theorem ExOn.keep {S : Nat → Prop} {w w' : World} (hw : ∀ g, S g → w'.heap[g]? = w.heap[g]?) : ∀ {n : Nat} {cs : List Value} {x : Ex}, ExOn S n w cs x → ExOn S n w' cs x
  | 0, _, _, h => h
  | n + 1, cs, x, ⟨a, len, cap, h1, h2, h3⟩ => ⟨a, len, cap, h1, h2, h3.imp id fun ⟨g, ha, hg, hi⟩ => ⟨g, ha, hg, fun i h => by
      obtain ⟨cs', hc, hx⟩ := hi i h
      exact ⟨cs', fun j hj => (World.cell?_of_block (w := w) (w' := w') (a := ⟨g, i * 5 + j, none⟩) (hw g hg)).trans (hc j hj), ExOn.keep hw hx⟩⟩⟩
theorem ExOn.at {S : Nat → Prop} {w : World} (hS : ∀ g, S g → g < w.heap.size) : ∀ {n : Nat} {cs : List Value} {x : Ex}, ExOn S n w cs x → ExAt n w cs x
  | 0, _, _, h => h
  | n + 1, cs, x, ⟨a, len, cap, h1, h2, h3⟩ => ⟨a, len, cap, h1, h2, h3.imp id fun ⟨g, ha, hg, hi⟩ => ⟨g, 0, ha, hS g hg, fun i h => by
      obtain ⟨cs', hc, hx⟩ := hi i h
      exact ⟨cs', fun j hj => by rw [Nat.zero_add]; exact hc j hj, ExOn.at hS hx⟩⟩⟩
theorem ExOn.shape {S : Nat → Prop} : ∀ {n : Nat} {w : World} {cs : List Value} {x : Ex}, ExOn S n w cs x → ∃ a len cap, cs = [.int .u8 x.kind, .string x.rat, .string x.name, .int .i64 x.date, .slice a len cap]
  | 0, _, _, _, h => h.elim
  | _ + 1, _, _, _, ⟨a, len, cap, h1, _, _⟩ => ⟨a, len, cap, h1⟩
/-- What Twin returns. -/
def TwP (n : Nat) (x : Ex) (w : World) (e : Ending) (w' : World) : Prop :=
  ∃ a len cap, e = .returned (.agg #[.int .u8 x.kind, .string x.rat, .string x.name, .int .i64 x.date, .slice a len cap]) ∧ ExOn (fun g => w.heap.size ≤ g ∧ g < w'.heap.size) n w' [.int .u8 x.kind, .string x.rat, .string x.name, .int .i64 x.date, .slice a len cap] x ∧ Below w.heap.size w w'
def zeroEx : Value := .agg #[.int .u8 0, .string ⟨#[]⟩, .string ⟨#[]⟩, .int .i64 0, .slice none 0 0]
theorem infoEx : (Tryd.prog.info? 25).map (fun i => (i.zero, i.size, i.bytes)) = some (some zeroEx, 5, 72) := by kernel_rfl
/-- The parts that are copied so far: the row of the copies, their trees elsewhere. -/
def TwR (n B : Nat) (l : List Ex) (k : Nat) (v : Value) (xs : List Value) (wr : World) : Prop :=
  ∃ css : List (List Value), css.flatten = xs ∧ css.length = k ∧ (∀ c ∈ css, c.length = 5) ∧ wr.ownsRow B 25 5 v k xs ∧
    ∀ i (h : i < css.length) (h2 : i < l.length), ExOn (fun g => B ≤ g ∧ g < wr.heap.size ∧ v.ownBlock ≠ some g) n wr css[i] l[i]
theorem TwR.nil (n B : Nat) (l : List Ex) (wr : World) : TwR n B l 0 (.slice none 0 0) [] wr :=
  ⟨[], rfl, rfl, by simp, ⟨by simp, .inl ⟨rfl, rfl⟩⟩, fun i h => absurd h (Nat.not_lt_zero _)⟩
/-- A store below. -/
theorem TwR.set {n B : Nat} {l : List Ex} {k : Nat} {v : Value} {xs : List Value} {w1 : World} (h : TwR n B l k v xs w1) {p : Addr} (hp : p.block < B) (u : Value) : TwR n B l k v xs (w1.setCell p u) := by
  obtain ⟨css, h0, h1, h2, h3, h4⟩ := h
  refine ⟨css, h0, h1, h2, ownsRow_setCell_below h3 hp u, fun i hi hi2 => ((h4 i hi hi2).keep (w' := w1.setCell p u) fun g ⟨g1, _, _⟩ => Below.heap_setCell _ _ _ _ (by omega)).mono fun g ⟨g1, g2, g3⟩ => ⟨g1, by simpa [World.setCell] using g2, g3⟩⟩
/-- One more. -/
theorem TwR.snoc {n B : Nat} {l : List Ex} {k : Nat} {v v' : Value} {xs : List Value} {w1 w2 w3 : World} {y : Ex} {cs : List Value} (h : TwR n B l k v xs w1) (hk : k < l.length) (hy : y = l[k]) (hB : B ≤ w1.heap.size)
    (hb : Below w1.heap.size w1 w2) (hx : ExOn (fun g => w1.heap.size ≤ g ∧ g < w2.heap.size) n w2 cs y) (hg : w2.grownBy w3 v.ownBlock) (hv : v'.ownBlock = v.ownBlock ∨ v'.ownBlock = some w2.heap.size)
    (hown : w3.ownsRow B 25 5 v' (k + 1) (xs ++ cs)) : TwR n B l (k + 1) v' (xs ++ cs) w3 := by
  obtain ⟨css, h0, h1, h2, h3, h4⟩ := h
  have hvl : ∀ g, v.ownBlock = some g → g < w1.heap.size := fun g e => (h3.lt g e).2
  have hn : ∀ g, (v'.ownBlock = some g) → g < w2.heap.size → v.ownBlock = some g := fun g e hl => by
    rcases hv with hv | hv
    · rw [← hv]; exact e
    · rw [hv] at e; injection e with e; omega
  obtain ⟨a, len, cap, hcs⟩ := hx.shape
  refine ⟨css ++ [cs], by rw [List.flatten_append, List.flatten_singleton, h0], by simp [h1], fun c hc => ?_, hown, fun i hi hi2 => ?_⟩
  · rcases List.mem_append.1 hc with hc | hc
    · exact h2 c hc
    · rw [List.mem_singleton.1 hc, hcs]; rfl
  · by_cases hik : i < css.length
    · have e1 : (css ++ [cs])[i] = css[i] := List.getElem_append_left hik
      rw [e1]
      refine ((h4 i hik hi2).keep (w' := w3) fun g ⟨_, g2, g3⟩ => ?_).mono fun g ⟨g1, g2, g3⟩ => ⟨g1, Nat.lt_of_lt_of_le g2 (Nat.le_trans hb.size hg.size), fun e => g3 (hn g e (Nat.lt_of_lt_of_le g2 hb.size))⟩
      rw [hg.block g (Nat.lt_of_lt_of_le g2 hb.size) (fun e => g3 e.symm), hb.block g g2]
    · have hie : i = k := by simp at hi; omega
      subst hie
      have e1 : (css ++ [cs])[i]'hi = cs := by rw [List.getElem_append_right (by omega)]; simp
      rw [e1, ← hy]
      refine (hx.keep (w' := w3) fun g ⟨g1, g2⟩ => ?_).mono fun g ⟨g1, g2⟩ => ⟨by omega, Nat.lt_of_lt_of_le g2 hg.size, fun e => by have := hvl g (hn g e g2); omega⟩
      exact hg.block g g2 (fun e => by have := hvl g e.symm; omega)
theorem TwR.owns {n B : Nat} {l : List Ex} {k : Nat} {v : Value} {xs : List Value} {w1 : World} (h : TwR n B l k v xs w1) : w1.ownsRow B 25 5 v k xs := by
  obtain ⟨_, _, _, _, h3, _⟩ := h; exact h3
/-- The whole. -/
theorem TwR.done {n B : Nat} {x : Ex} {k : Nat} {v : Value} {xs : List Value} {wr : World} (h : TwR n B x.sub k v xs wr) (hk : x.sub.length = k) :
    ∃ a len cap, v = .slice a len cap ∧ ExOn (fun g => B ≤ g ∧ g < wr.heap.size) (n + 1) wr [.int .u8 x.kind, .string x.rat, .string x.name, .int .i64 x.date, .slice a len cap] x := by
  obtain ⟨css, h0, h1, h2, h3, h4⟩ := h
  rcases h3.2 with ⟨rfl, h0⟩ | ⟨g, cap, cur, rfl, hg, hc, hle, hm, hcs, ht⟩
  · exact ⟨none, 0, 0, rfl, none, 0, 0, rfl, by omega, .inl rfl⟩
  · have hgl : g < wr.heap.size := (Array.getElem?_eq_some_iff.1 hc).1
    refine ⟨_, _, _, rfl, some ⟨g, 0, none⟩, k, cap, rfl, hk, .inr ⟨g, rfl, ⟨by omega, hgl⟩, fun i hi => ⟨css[i], fun j hj => ?_, (h4 i (by omega) hi).mono fun g ⟨g1, g2, _⟩ => ⟨g1, g2⟩⟩⟩⟩
    have hfl : ∀ (L : List (List Value)), (∀ c ∈ L, c.length = 5) → ∀ i (hi : i < L.length) j, j < 5 → L.flatten[i * 5 + j]? = L[i][j]? := by
      intro L
      induction L with
      | nil => intro _ i hi; exact absurd hi (Nat.not_lt_zero _)
      | cons c L ih =>
        intro hL i hi j hj
        have hc5 : c.length = 5 := hL c (List.mem_cons_self ..)
        rw [List.flatten_cons]
        match i, hi with
        | 0, _ => rw [Nat.zero_mul, Nat.zero_add, List.getElem?_append_left (by omega)]; rfl
        | i + 1, hi =>
          rw [List.getElem?_append_right (by omega), show (i + 1) * 5 + j - c.length = i * 5 + j by omega, ih (fun c hc => hL c (List.mem_cons_of_mem _ hc)) i (by simpa using hi) j hj]
          rfl
    rw [← hfl css h2 i (by omega) j hj, h0, ← ht, List.getElem?_take_of_lt (by
      have : i * 5 + j < k * 5 := by omega
      exact this)]
    simp [World.cell?, hc]

end Go.Proofs.YtijkefflpojmhaaDoor

namespace Go.Proofs.YtijkefflpojmhaaDoor
open Go.RowKit

theorem tw_own {w1 u : World} {base : Nat} {v : Value} {k : Nat} {xs : List Value} (h : w1.ownsRow base 25 5 v k xs) (hb : Below w1.heap.size w1.drew u) (o : Obj) : (u.alloc o).ownsRow base 25 5 v k xs :=
  World.ownsRow.alloc (World.ownsRow.kept (w := w1) h ⟨hb.os, hb.tape, hb.output, hb.size, fun i hi _ => hb.block i hi⟩ (row := none) (by cases v.ownBlock <;> simp)) o
theorem tw_ne {w1 : World} {base : Nat} {v : Value} {k q : Nat} {xs : List Value} (h : w1.ownsRow base 25 5 v k xs) (hq : q < base) : some q ≠ v.ownBlock := fun e => by
  have := (h.lt q e.symm).1; omega
theorem one_five (k d : Int) (r n : ByteArray) (a : Option Addr) (l c : Nat) : ∀ u ∈ [Value.int .u8 k, .string r, .string n, .int .i64 d, .slice a l c], u.oneCell' = true := by
  intro u hu
  simp only [List.mem_cons, List.not_mem_nil, or_false] at hu
  rcases hu with rfl | rfl | rfl | rfl | rfl <;> rfl
/-- The three blocks of a call. -/
def TwB (x : Ex) (B : Nat) (a : Option Addr) (len cap : Nat) (v : Value) (w : World) : Prop :=
  w.heap[B]? = some (.cells #[.int .u8 x.kind, .string x.rat, .string x.name, .int .i64 x.date, .slice a len cap] 25) ∧ w.heap[B + 1]? = some (.cells #[.int .u8 0, .string ⟨#[]⟩, .string ⟨#[]⟩, .int .i64 0, .slice none 0 0] 25) ∧
    w.heap[B + 1 + 1]? = some (.cells #[.int .u8 x.kind, .string x.rat, .string x.name, .int .i64 x.date, v] 25) ∧ B + 3 ≤ w.heap.size

theorem tw_step {n B len cap k ga ca : Nat} {x y : Ex} {a pa : Option Addr} {pl pc : Nat} {v : Value} {xs : List Value} {w w1 u w3 : World}
    (h0 : w1.heap[B]? = some (.cells #[.int .u8 x.kind, .string x.rat, .string x.name, .int .i64 x.date, .slice a len cap] 25))
    (h1 : w1.heap[B + 1]? = some (.cells #[.int .u8 0, .string ⟨#[]⟩, .string ⟨#[]⟩, .int .i64 0, .slice none 0 0] 25))
    (h2 : w1.heap[B + 1 + 1]? = some (.cells #[.int .u8 x.kind, .string x.rat, .string x.name, .int .i64 x.date, v] 25)) (hz : B + 3 ≤ w1.heap.size)
    (hr : TwR n (B + 3) x.sub k v xs w1) (hb : Below B w w1) (hu : Below w1.drew.heap.size w1.drew u)
    (hx : ExOn (fun g => w1.drew.heap.size ≤ g ∧ g < u.heap.size) n u [.int .u8 y.kind, .string y.rat, .string y.name, .int .i64 y.date, .slice pa pl pc] y)
    (hg : (u.alloc (.cells #[.int .u8 y.kind, .string y.rat, .string y.name, .int .i64 y.date, .slice pa pl pc] 25)).grownBy w3 v.ownBlock)
    (hown : w3.ownsRow (B + 3) 25 5 (.slice (some ⟨ga, 0, none⟩) (k + 1) ca) (k + 1) (xs ++ [.int .u8 y.kind, .string y.rat, .string y.name, .int .i64 y.date, .slice pa pl pc]))
    (hat : v.ownBlock = some ga ∨ ga = (u.alloc (.cells #[.int .u8 y.kind, .string y.rat, .string y.name, .int .i64 y.date, .slice pa pl pc] 25)).heap.size) (hk : k < x.sub.length) (hy : y = x.sub[k]) :
    TwB x B a len cap (.slice (some ⟨ga, 0, none⟩) (k + 1) ca) (w3.setCell ⟨B + 1 + 1, 4, none⟩ (.slice (some ⟨ga, 0, none⟩) (k + 1) ca)) ∧
      TwR n (B + 3) x.sub (k + 1) (.slice (some ⟨ga, 0, none⟩) (k + 1) ca) (xs ++ [.int .u8 y.kind, .string y.rat, .string y.name, .int .i64 y.date, .slice pa pl pc]) (w3.setCell ⟨B + 1 + 1, 4, none⟩ (.slice (some ⟨ga, 0, none⟩) (k + 1) ca)) ∧
      Below B w (w3.setCell ⟨B + 1 + 1, 4, none⟩ (.slice (some ⟨ga, 0, none⟩) (k + 1) ca)) := by
  obtain ⟨u2, hu2⟩ : ∃ u2, u2 = u.alloc (.cells #[.int .u8 y.kind, .string y.rat, .string y.name, .int .i64 y.date, .slice pa pl pc] 25) := ⟨_, rfl⟩
  rw [← hu2] at hg hat
  have hbu : Below w1.heap.size w1 u := ⟨hu.os, hu.tape, hu.output, hu.size, hu.block⟩
  have hb2 : Below w1.heap.size w1 u2 := by rw [hu2]; exact hbu.alloc hbu.size _
  have hzu : u.heap.size ≤ u2.heap.size := by rw [hu2]; simp
  have hvb : ∀ g, v.ownBlock = some g → B + 3 ≤ g := fun g e => (hr.owns.lt g e).1
  have keep : ∀ q, q < B + 3 → w3.heap[q]? = w1.heap[q]? := fun q hq => by
    rw [hg.block q (Nat.lt_of_lt_of_le (by omega) hb2.size) (fun e => by have := hvb q e.symm; omega), hb2.block q (by omega)]
  have hx2 : ExOn (fun g => w1.heap.size ≤ g ∧ g < u2.heap.size) n u2 [.int .u8 y.kind, .string y.rat, .string y.name, .int .i64 y.date, .slice pa pl pc] y :=
    (hx.keep (w' := u2) fun g ⟨_, g2⟩ => by rw [hu2]; exact Below.heap_alloc u _ g g2).mono fun g ⟨g1, g2⟩ => ⟨g1, by omega⟩
  have hs := hr.snoc hk hy hz hb2 hx2 hg (v' := .slice (some ⟨ga, 0, none⟩) (k + 1) ca) (by
    rcases hat with h | h
    · exact .inl h.symm
    · right; rw [h]; rfl) hown
  refine ⟨⟨?_, ?_, ?_, ?_⟩, hs.set (p := ⟨B + 1 + 1, 4, none⟩) (by show B + 1 + 1 < B + 3; omega) _, ?_⟩
  · rw [Below.heap_setCell _ _ _ _ (by show B ≠ B + 1 + 1; omega), keep _ (by omega)]; exact h0
  · rw [Below.heap_setCell _ _ _ _ (by show B + 1 ≠ B + 1 + 1; omega), keep _ (by omega)]; exact h1
  · have := (keep (B + 1 + 1) (by omega)).trans h2
    simp [World.setCell, Array.getElem?_modify, this]
  · have := hg.size; have := hb2.size
    simp [World.setCell]; omega
  · refine (((hb.trans (hb2.mono (by omega))).grown hg (by have := hb2.size; omega) (fun q e => by have := hvb q e; omega))).setCell (p := ⟨B + 1 + 1, 4, none⟩) (by show B ≤ B + 1 + 1; omega) _

theorem tw_end {n B lv cv : Nat} {x : Ex} {av : Option Addr} {w w1 : World}
    (h1 : w1.heap[B + 1]? = some (.cells #[.int .u8 0, .string ⟨#[]⟩, .string ⟨#[]⟩, .int .i64 0, .slice none 0 0] 25)) (hb : Below B w w1)
    (hx : ExOn (fun g => B + 3 ≤ g ∧ g < w1.heap.size) (n + 1) w1 [.int .u8 x.kind, .string x.rat, .string x.name, .int .i64 x.date, .slice av lv cv] x) :
    ∃ W', W' = ((((w1.setCell ⟨B + 1, 0, none⟩ (.int .u8 x.kind)).setCell ⟨B + 1, 1, none⟩ (.string x.rat)).setCell ⟨B + 1, 2, none⟩ (.string x.name)).setCell ⟨B + 1, 3, none⟩ (.int .i64 x.date)).setCell ⟨B + 1, 4, none⟩ (.slice av lv cv) ∧
      W'.heap[B + 1]? = some (.cells #[.int .u8 x.kind, .string x.rat, .string x.name, .int .i64 x.date, .slice av lv cv] 25) ∧
      ExOn (fun g => B ≤ g ∧ g < W'.heap.size) (n + 1) W' [.int .u8 x.kind, .string x.rat, .string x.name, .int .i64 x.date, .slice av lv cv] x ∧ Below B w W' := by
  refine ⟨_, rfl, ?_, ?_, ?_⟩
  · simp [World.setCell, Array.getElem?_modify, h1]
  · refine (hx.keep fun g ⟨g1, _⟩ => ?_).mono fun g ⟨g1, g2⟩ => ⟨by omega, by simpa [World.setCell] using g2⟩
    rw [Below.heap_setCell _ _ _ _ (by show g ≠ B + 1; omega), Below.heap_setCell _ _ _ _ (by show g ≠ B + 1; omega), Below.heap_setCell _ _ _ _ (by show g ≠ B + 1; omega), Below.heap_setCell _ _ _ _ (by show g ≠ B + 1; omega), Below.heap_setCell _ _ _ _ (by show g ≠ B + 1; omega)]
  · exact ((((hb.setCell (p := ⟨B + 1, 0, none⟩) (by show B ≤ B + 1; omega) _).setCell (p := ⟨B + 1, 1, none⟩) (by show B ≤ B + 1; omega) _).setCell (p := ⟨B + 1, 2, none⟩) (by show B ≤ B + 1; omega) _).setCell (p := ⟨B + 1, 3, none⟩) (by show B ≤ B + 1; omega) _).setCell (p := ⟨B + 1, 4, none⟩) (by show B ≤ B + 1; omega) _

end Go.Proofs.YtijkefflpojmhaaDoor

namespace Go.Proofs.YtijkefflpojmhaaDoor
open Go.RowKit

theorem infoInt64 : (Tryd.prog.info? 3).map (fun i => (i.zero, i.size, i.bytes)) = some (some (.int .i64 0), 1, 8) := by kernel_rfl
theorem one_cell {u : Value} (h : u.oneCell' = true) : ∀ x ∈ [u], x.oneCell' = true := fun x hx => by rw [List.mem_singleton.1 hx]; exact h
theorem sm_parts {k : Int} {r nm : ByteArray} {d : Int} {l : List Ex} (h : ∃ dd, SmX dd (Ex.mk k r nm d l)) : (r.size ≤ 2500 ∧ nm.size ≤ 200) ∧ ∀ y ∈ l, ∃ dd, SmX dd y := by
  obtain ⟨dd, h⟩ := h
  match dd, h with
  | _ + 1, ⟨h1, h2, h3⟩ => exact ⟨⟨h2, h1⟩, fun y hy => ⟨_, h3 y hy⟩⟩
def RsR (W0 : World) (L : List Int) (len : Nat) (lv iv : Value) (wr : World) : Prop :=
  ∃ k : Nat, k ≤ len ∧ iv = .int .i64 (k : Int) ∧ Hid (wr.ownsRow W0.heap.size 3 1 lv k (ints (L.take k))) ∧ Below W0.heap.size W0 wr
/-- What a row of sorts looks like. -/
theorem sorts_at {w : World} {B : Nat} {v : Value} {n : Nat} {L : List Int} (h : w.ownsRow B 3 1 v n (ints L)) : (v = .slice none 0 0 ∧ n = 0) ∨ ∃ g cap, v = .slice (some ⟨g, 0, none⟩) n cap ∧ g < w.heap.size ∧ ∀ i, i < L.length → w.cell? ⟨g, i, none⟩ = some (.int .i64 (L[i]?.getD 0)) := by
  rcases rowAt_of_owns h with ⟨rfl, rfl, _⟩ | ⟨g, cap, rfl, _, _, _, _, hr⟩
  · exact .inl ⟨rfl, rfl⟩
  · refine .inr ⟨g, cap, rfl, hr.lt, fun i hi => ?_⟩
    rw [hr.cell (by rw [ints_length]; exact hi), ints_get L i hi]

theorem srt_bare {k : Int} {r n : ByteArray} {d : Int} {l ps : List Int} {own : Int} (hs : shpL k = some (ps, own)) (h : bareB r n d = false) : srtP k r n d l = 0 := by
  unfold srtP; rw [hs]; simp [h]
theorem srt_ne {k : Int} {r n : ByteArray} {d : Int} {l ps : List Int} {own : Int} (hs : shpL k = some (ps, own)) (h : l ≠ ps) : srtP k r n d l = 0 := by
  unfold srtP; rw [hs]; simp [h]
theorem srt_yes {k : Int} {r n : ByteArray} {d : Int} {l ps : List Int} {own : Int} (hs : shpL k = some (ps, own)) (hb : bareB r n d = true) (h : l = ps) : srtP k r n d l = own := by
  unfold srtP; rw [hs]; simp [h, hb]
theorem srt_leaf {k : Int} {r n : ByteArray} {d : Int} {l : List Int} (hs : shpL k = none) (h : l = []) : srtP k r n d l = leafV k r n d := by
  unfold srtP; rw [hs]; simp [h]
theorem srt_leaf_no {k : Int} {r n : ByteArray} {d : Int} {l : List Int} (hs : shpL k = none) (h : l ≠ []) : srtP k r n d l = 0 := by
  unfold srtP; rw [hs]; simp [h]
theorem shp_5 {k : Int} (h4 : 4 ≤ k) (h8 : k ≤ 8) : shpL k = some ([1, 1], 1) := by
  unfold shpL; rw [if_pos (by omega)]
theorem shp_no {k : Int} (h : k < 4 ∨ k = 10 ∨ 15 < k) : shpL k = none := by
  unfold shpL; rw [if_neg (by omega), if_neg (by omega), if_neg (by omega), if_neg (by omega), if_neg (by omega)]
theorem leaf_no {k : Int} (r n : ByteArray) (d : Int) (h1 : k ≠ 1) (h2 : k ≠ 2) (h3 : k ≠ 3) : leafV k r n d = 0 := by
  unfold leafV; rw [if_neg h1, if_neg h2, if_neg h3]
theorem list_1 {l : List Int} {a : Int} (h : l.length = 1) (h0 : l[0]?.getD 0 = a) : l = [a] := by
  match l, h with
  | [x], _ => simp at h0; rw [h0]
theorem list_2 {l : List Int} {a b : Int} (h : l.length = 2) (h0 : l[0]?.getD 0 = a) (h1 : l[1]?.getD 0 = b) : l = [a, b] := by
  match l, h with
  | [x, y], _ => simp at h0 h1; rw [h0, h1]
theorem list_3 {l : List Int} {a b c : Int} (h : l.length = 3) (h0 : l[0]?.getD 0 = a) (h1 : l[1]?.getD 0 = b) (h2 : l[2]?.getD 0 = c) : l = [a, b, c] := by
  match l, h with
  | [x, y, z], _ => simp at h0 h1 h2; rw [h0, h1, h2]
theorem list_at_ne {l ps : List Int} {i : Nat} (h : l[i]?.getD 0 ≠ ps[i]?.getD 0) : l ≠ ps := fun e => h (by rw [e])
theorem list_len_ne {l ps : List Int} (h : l.length ≠ ps.length) : l ≠ ps := fun e => h (by rw [e])
/-- What a row of sorts looks like, in one form. -/
theorem sorts_one {w : World} {B : Nat} {v : Value} {n : Nat} {L : List Int} (h : w.ownsRow B 3 1 v n (ints L)) : ∃ av cv, v = .slice av n cv ∧ (n = 0 ∨ ∃ g, av = some ⟨g, 0, none⟩ ∧ g < w.heap.size ∧ ∀ i, i < L.length → w.cell? ⟨g, i, none⟩ = some (.int .i64 (L[i]?.getD 0))) := by
  rcases sorts_at h with ⟨rfl, rfl⟩ | ⟨g, cap, rfl, h1, h2⟩
  · exact ⟨none, 0, rfl, .inl rfl⟩
  · exact ⟨_, _, rfl, .inr ⟨g, rfl, h1, h2⟩⟩
theorem kd_lo {k : Int} (h4 : k < 4) : (k ≠ 9 ∧ k ≠ 11 ∧ k ≠ 12 ∧ k ≠ 13 ∧ k ≠ 14 ∧ k ≠ 15) ∧ decide ((4 : Int) ≤ k) = false ∧ (k < 4 ∨ k = 10 ∨ 15 < k) := by
  refine ⟨by omega, by simp; omega, by omega⟩
theorem kd_hi {k : Int} (h4 : k = 10 ∨ 15 < k) : (k ≠ 1 ∧ k ≠ 2 ∧ k ≠ 3) ∧ (k ≠ 9 ∧ k ≠ 11 ∧ k ≠ 12 ∧ k ≠ 13 ∧ k ≠ 14 ∧ k ≠ 15) ∧ (decide ((4 : Int) ≤ k) = true ∧ decide (k ≤ 8) = false) ∧ (k < 4 ∨ k = 10 ∨ 15 < k) := by
  refine ⟨by omega, by omega, ⟨by simp; omega, by simp; omega⟩, by omega⟩
theorem ieq_false {a b : Int} (h : a ≠ b) : (a == b) = false := by simpa using h
theorem ieq_true {a b : Int} (h : a = b) : (a == b) = true := by simpa using h

end Go.Proofs.YtijkefflpojmhaaDoor

namespace Go.Proofs.YtijkefflpojmhaaDoor
open Go.RowKit

/-- A call that returns a small number and may leave blocks of its own. -/
def U8P (w : World) (v : Int) (e : Ending) (w' : World) : Prop := e = .returned (.int .u8 v) ∧ Below w.heap.size w w'
set_option maxHeartbeats 1000000 in
theorem pwithin_any (n : Int) (w : World) : Calls Tryd.prog 64 #[.int .i64 n] w (fun e w' => e = .returned (.bool (decide (0 ≤ n) && decide (n ≤ 99999))) ∧ w = w') := by
  by_cases h0 : 0 ≤ n
  · by_cases h1 : n ≤ 99999
    · have e : (decide (0 ≤ n) && decide (n ≤ 99999)) = true := by simp [h0, h1]
      rw [e]
      clear e
      go_enter Tryd.func64, Tryd.ntmps64
      go_wp2
      go_ret
      exact ⟨rfl, rfl⟩
    · have e : (decide (0 ≤ n) && decide (n ≤ 99999)) = false := by simp [h1]
      rw [e]
      clear e
      go_enter Tryd.func64, Tryd.ntmps64
      go_wp2
      go_ret
      exact ⟨rfl, rfl⟩
  · have e : (decide (0 ≤ n) && decide (n ≤ 99999)) = false := by simp [h0]
    have d0 : decide (0 ≤ n) = false := by simpa using h0
    rw [e]
    clear e
    go_enter Tryd.func64, Tryd.ntmps64
    go_wp2
    go_ret
    exact ⟨rfl, rfl⟩
/-- The sort of a leaf. -/
def lfV (k : Int) (r n : ByteArray) (d : Int) (len : Nat) : Int := if len = 0 then leafV k r n d else 0

set_option maxHeartbeats 2000000 in
set_option maxRecDepth 100000 in
theorem leaf_1 (r nm : ByteArray) (d : Int) (a : Option Addr) (len cap : Nat) (w : World) (hr : r.size ≤ 2500) :
    Calls Tryd.prog 56 #[.agg #[.int .u8 1, .string r, .string nm, .int .i64 d, .slice a len cap]] w (U8P w (lfV 1 r nm d len)) := by
  obtain ⟨bl, ql⟩ : ∃ b, ((len : Int) == 0) = b := ⟨_, rfl⟩
  obtain ⟨br, qr⟩ : ∃ b, r.toList.isEmpty = b := ⟨_, rfl⟩
  obtain ⟨bn, qn⟩ : ∃ b, nm.toList.isEmpty = b := ⟨_, rfl⟩
  obtain ⟨bd, qd⟩ : ∃ b, ((d : Int) == 0) = b := ⟨_, rfl⟩
  have HQL : Hid (bl = true ↔ len = 0) := by show bl = true ↔ _; rw [← ql]; simp
  have HQR : Hid (r.data.toList.isEmpty = br) := by show _ = br; rw [← qr, toList_data]
  have HQN : Hid (nm.data.toList.isEmpty = bn) := by show _ = bn; rw [← qn, toList_data]
  have HQD : Hid (bd = true ↔ d = 0) := by show bd = true ↔ _; rw [← qd]; simp
  obtain ⟨R, hR⟩ : ∃ R, R = lfV 1 r nm d len := ⟨_, rfl⟩
  rw [← hR]
  have HRR := Lib.hid hR
  have HCK : Hid (∀ W, Calls Tryd.prog 63 #[.string r] W (ErrPost W (chkR r.data.toList))) := fun W => qrat_any r W (by omega)
  obtain ⟨z, hzz⟩ : ∃ z, z = chkR r.data.toList := ⟨_, rfl⟩
  rw [← hzz] at HCK
  have HZZ := Lib.hid hzz
  clear hzz
  clear hR
  go_enter Tryd.func56, Tryd.ntmps56
  go_upto_region 1 with (fail)
  obtain ⟨W0, hW0⟩ : ∃ W0, W0 = w.alloc (.cells #[.int .u8 1, .string r, .string nm, .int .i64 d, .slice a len cap] 25) := ⟨_, rfl⟩
  have hbx : W0.heap[w.heap.size]? = some (.cells #[.int .u8 1, .string r, .string nm, .int .i64 d, .slice a len cap] 25) := by rw [hW0]; exact heap_alloc_new w _
  have HB0 : Hid (Below w.heap.size w W0) := by rw [hW0]; exact own_below w _
  have hzW : w.heap.size < W0.heap.size := (Array.getElem?_eq_some_iff.1 hbx).1
  rw [← hW0]
  have HBX := Lib.hid hbx
  obtain ⟨c0, c1, c2, c3, c4⟩ := exCells hbx
  clear hW0 hbx
  cases bl with
  | false =>
    have hln : len ≠ 0 := fun h => by have := HQL.out.2 h; cases this
    have e : R = 0 := by rw [HRR.out]; simp [lfV, hln]
    clear hln
    have E := Lib.hid e
    clear e
    go_wp2_with fail
    go_ret
    exact ⟨by rw [E.out]; rfl, HB0.out⟩
  | true =>
    have HLV : Hid (R = leafV 1 r nm d) := by
      have hln : len = 0 := HQL.out.1 rfl
      show R = _
      rw [HRR.out]; simp [lfV, hln]
    by_cases hz0 : z = 0
    · have qz : ((z : Int) == 0) = true := ieq_true hz0
      have HZ0 := Lib.hid hz0
      clear hz0
      cases bn with
      | false =>
        have e : R = 0 := by rw [HLV.out]; simp [leafV, HQN.out]
        have E := Lib.hid e
        clear e
        go_wp2_with fail
        refine (HCK.out _).mono ?_
        rintro e w2 ⟨rfl, hb2⟩
        have HB2 := Lib.hid (HB0.out.trans (hb2.mono HB0.out.size))
        obtain ⟨d0, d1, d2, d3, d4⟩ := exCells ((hb2.block _ hzW).trans HBX.out)
        clear hb2 c0 c1 c2 c3 c4
        go_wp2_with fail
        go_ret
        exact ⟨by rw [E.out]; rfl, HB2.out⟩
      | true =>
        cases bd with
        | false =>
          have e : R = 0 := by
            have hd : d ≠ 0 := fun h => by have := HQD.out.2 h; cases this
            rw [HLV.out]; simp [leafV, hd]
          have E := Lib.hid e
          clear e
          go_wp2_with fail
          refine (HCK.out _).mono ?_
          rintro e w2 ⟨rfl, hb2⟩
          have HB2 := Lib.hid (HB0.out.trans (hb2.mono HB0.out.size))
          obtain ⟨d0, d1, d2, d3, d4⟩ := exCells ((hb2.block _ hzW).trans HBX.out)
          clear hb2 c0 c1 c2 c3 c4
          go_wp2_with fail
          go_ret
          exact ⟨by rw [E.out]; rfl, HB2.out⟩
        | true =>
          have e : R = 1 := by
            have hd : d = 0 := HQD.out.1 rfl
            rw [HLV.out]; simp [leafV, hd, HQN.out, ← HZZ.out, HZ0.out]
          have E := Lib.hid e
          clear e
          go_wp2_with fail
          refine (HCK.out _).mono ?_
          rintro e w2 ⟨rfl, hb2⟩
          have HB2 := Lib.hid (HB0.out.trans (hb2.mono HB0.out.size))
          obtain ⟨d0, d1, d2, d3, d4⟩ := exCells ((hb2.block _ hzW).trans HBX.out)
          clear hb2 c0 c1 c2 c3 c4
          go_wp2_with fail
          go_ret
          exact ⟨by rw [E.out]; rfl, HB2.out⟩
    · have qz : ((z : Int) == 0) = false := ieq_false hz0
      have e : R = 0 := by rw [HLV.out]; simp [leafV, ← HZZ.out, hz0]
      clear hz0
      have E := Lib.hid e
      clear e
      go_wp2_with fail
      refine (HCK.out _).mono ?_
      rintro e w2 ⟨rfl, hb2⟩
      have HB2 := Lib.hid (HB0.out.trans (hb2.mono HB0.out.size))
      obtain ⟨d0, d1, d2, d3, d4⟩ := exCells ((hb2.block _ hzW).trans HBX.out)
      clear hb2 c0 c1 c2 c3 c4
      go_wp2_with fail
      go_ret
      exact ⟨by rw [E.out]; rfl, HB2.out⟩

set_option maxHeartbeats 2000000 in
set_option maxRecDepth 100000 in
theorem leaf_2 (r nm : ByteArray) (d : Int) (a : Option Addr) (len cap : Nat) (w : World) :
    Calls Tryd.prog 56 #[.agg #[.int .u8 2, .string r, .string nm, .int .i64 d, .slice a len cap]] w (U8P w (lfV 2 r nm d len)) := by
  obtain ⟨bl, ql⟩ : ∃ b, ((len : Int) == 0) = b := ⟨_, rfl⟩
  obtain ⟨br, qr⟩ : ∃ b, r.toList.isEmpty = b := ⟨_, rfl⟩
  obtain ⟨bn, qn⟩ : ∃ b, nm.toList.isEmpty = b := ⟨_, rfl⟩
  obtain ⟨bd, qd⟩ : ∃ b, ((d : Int) == 0) = b := ⟨_, rfl⟩
  have HQL : Hid (bl = true ↔ len = 0) := by show bl = true ↔ _; rw [← ql]; simp
  have HQR : Hid (r.data.toList.isEmpty = br) := by show _ = br; rw [← qr, toList_data]
  have HQN : Hid (nm.data.toList.isEmpty = bn) := by show _ = bn; rw [← qn, toList_data]
  have HQD : Hid (bd = true ↔ d = 0) := by show bd = true ↔ _; rw [← qd]; simp
  obtain ⟨R, hR⟩ : ∃ R, R = lfV 2 r nm d len := ⟨_, rfl⟩
  rw [← hR]
  have HRR := Lib.hid hR
  have HNM : Hid (∀ W, Calls Tryd.prog 24 #[.string nm] W (fun e w' => e = .returned (.bool (nmB nm.data.toList)) ∧ W = w')) := fun W => name_any nm W
  obtain ⟨nb, hnb⟩ : ∃ z, z = nmB nm.data.toList := ⟨_, rfl⟩
  rw [← hnb] at HNM
  have HNB := Lib.hid hnb
  clear hnb
  have HDY : Hid (∀ W, Calls Tryd.prog 64 #[.int .i64 d] W (fun e w' => e = .returned (.bool (decide (0 ≤ d) && decide (d ≤ 99999))) ∧ W = w')) := fun W => pwithin_any d W
  obtain ⟨db, hdb⟩ : ∃ z, z = (decide (0 ≤ d) && decide (d ≤ 99999)) := ⟨_, rfl⟩
  rw [← hdb] at HDY
  have HDB := Lib.hid hdb
  clear hdb
  clear hR
  go_enter Tryd.func56, Tryd.ntmps56
  go_upto_region 1 with (fail)
  obtain ⟨W0, hW0⟩ : ∃ W0, W0 = w.alloc (.cells #[.int .u8 2, .string r, .string nm, .int .i64 d, .slice a len cap] 25) := ⟨_, rfl⟩
  have hbx : W0.heap[w.heap.size]? = some (.cells #[.int .u8 2, .string r, .string nm, .int .i64 d, .slice a len cap] 25) := by rw [hW0]; exact heap_alloc_new w _
  have HB0 : Hid (Below w.heap.size w W0) := by rw [hW0]; exact own_below w _
  have hzW : w.heap.size < W0.heap.size := (Array.getElem?_eq_some_iff.1 hbx).1
  rw [← hW0]
  obtain ⟨c0, c1, c2, c3, c4⟩ := exCells hbx
  clear hW0 hbx
  cases bl with
  | false =>
    have hln : len ≠ 0 := fun h => by have := HQL.out.2 h; cases this
    have e : R = 0 := by rw [HRR.out]; simp [lfV, hln]
    clear hln
    have E := Lib.hid e
    clear e
    go_wp2_with fail
    go_ret
    exact ⟨by rw [E.out]; rfl, HB0.out⟩
  | true =>
    have HLV : Hid (R = leafV 2 r nm d) := by
      have hln : len = 0 := HQL.out.1 rfl
      show R = _
      rw [HRR.out]; simp [lfV, hln]
    cases br with
    | false =>
      have e : R = 0 := by rw [HLV.out]; simp [leafV, HQR.out]
      have E := Lib.hid e
      clear e
      go_wp2_with fail
      go_ret
      exact ⟨by rw [E.out]; rfl, HB0.out⟩
    | true =>
      cases nb with
      | false =>
        have e : R = 0 := by rw [HLV.out]; simp [leafV, ← HNB.out]
        have E := Lib.hid e
        clear e
        go_wp2_with fail
        refine (HNM.out _).mono ?_
        rintro e w2 ⟨rfl, rfl⟩
        go_wp2_with fail
        go_ret
        exact ⟨by rw [E.out]; rfl, HB0.out⟩
      | true =>
        have e0 : R = if db = true then 1 else 0 := by
          rw [HLV.out, HDB.out]; simp [leafV, HQR.out, ← HNB.out]
        cases db with
        | false =>
          have e : R = 0 := by rw [e0]; rfl
          clear e0
          have E := Lib.hid e
          clear e
          go_wp2_with fail
          refine (HNM.out _).mono ?_
          rintro e w2 ⟨rfl, rfl⟩
          go_wp2_with fail
          refine (HDY.out _).mono ?_
          rintro e w2 ⟨rfl, rfl⟩
          go_wp2_with fail
          go_ret
          exact ⟨by rw [E.out]; rfl, HB0.out⟩
        | true =>
          have e : R = 1 := by rw [e0]; rfl
          clear e0
          have E := Lib.hid e
          clear e
          go_wp2_with fail
          refine (HNM.out _).mono ?_
          rintro e w2 ⟨rfl, rfl⟩
          go_wp2_with fail
          refine (HDY.out _).mono ?_
          rintro e w2 ⟨rfl, rfl⟩
          go_wp2_with fail
          go_ret
          exact ⟨by rw [E.out]; rfl, HB0.out⟩

set_option maxHeartbeats 2000000 in
set_option maxRecDepth 100000 in
theorem leaf_3 (r nm : ByteArray) (d : Int) (a : Option Addr) (len cap : Nat) (w : World) :
    Calls Tryd.prog 56 #[.agg #[.int .u8 3, .string r, .string nm, .int .i64 d, .slice a len cap]] w (U8P w (lfV 3 r nm d len)) := by
  obtain ⟨bl, ql⟩ : ∃ b, ((len : Int) == 0) = b := ⟨_, rfl⟩
  obtain ⟨br, qr⟩ : ∃ b, r.toList.isEmpty = b := ⟨_, rfl⟩
  obtain ⟨bn, qn⟩ : ∃ b, nm.toList.isEmpty = b := ⟨_, rfl⟩
  obtain ⟨bd, qd⟩ : ∃ b, ((d : Int) == 0) = b := ⟨_, rfl⟩
  have HQL : Hid (bl = true ↔ len = 0) := by show bl = true ↔ _; rw [← ql]; simp
  have HQR : Hid (r.data.toList.isEmpty = br) := by show _ = br; rw [← qr, toList_data]
  have HQN : Hid (nm.data.toList.isEmpty = bn) := by show _ = bn; rw [← qn, toList_data]
  have HQD : Hid (bd = true ↔ d = 0) := by show bd = true ↔ _; rw [← qd]; simp
  obtain ⟨R, hR⟩ : ∃ R, R = lfV 3 r nm d len := ⟨_, rfl⟩
  rw [← hR]
  have HRR := Lib.hid hR
  have HNM : Hid (∀ W, Calls Tryd.prog 24 #[.string nm] W (fun e w' => e = .returned (.bool (nmB nm.data.toList)) ∧ W = w')) := fun W => name_any nm W
  obtain ⟨nb, hnb⟩ : ∃ z, z = nmB nm.data.toList := ⟨_, rfl⟩
  rw [← hnb] at HNM
  have HNB := Lib.hid hnb
  clear hnb
  clear hR
  go_enter Tryd.func56, Tryd.ntmps56
  go_upto_region 1 with (fail)
  obtain ⟨W0, hW0⟩ : ∃ W0, W0 = w.alloc (.cells #[.int .u8 3, .string r, .string nm, .int .i64 d, .slice a len cap] 25) := ⟨_, rfl⟩
  have hbx : W0.heap[w.heap.size]? = some (.cells #[.int .u8 3, .string r, .string nm, .int .i64 d, .slice a len cap] 25) := by rw [hW0]; exact heap_alloc_new w _
  have HB0 : Hid (Below w.heap.size w W0) := by rw [hW0]; exact own_below w _
  have hzW : w.heap.size < W0.heap.size := (Array.getElem?_eq_some_iff.1 hbx).1
  rw [← hW0]
  obtain ⟨c0, c1, c2, c3, c4⟩ := exCells hbx
  clear hW0 hbx
  cases bl with
  | false =>
    have hln : len ≠ 0 := fun h => by have := HQL.out.2 h; cases this
    have e : R = 0 := by rw [HRR.out]; simp [lfV, hln]
    clear hln
    have E := Lib.hid e
    clear e
    go_wp2_with fail
    go_ret
    exact ⟨by rw [E.out]; rfl, HB0.out⟩
  | true =>
    have HLV : Hid (R = leafV 3 r nm d) := by
      have hln : len = 0 := HQL.out.1 rfl
      show R = _
      rw [HRR.out]; simp [lfV, hln]
    cases br with
    | false =>
      have e : R = 0 := by rw [HLV.out]; simp [leafV, HQR.out]
      have E := Lib.hid e
      clear e
      go_wp2_with fail
      go_ret
      exact ⟨by rw [E.out]; rfl, HB0.out⟩
    | true =>
      cases nb with
      | false =>
        have e : R = 0 := by rw [HLV.out]; simp [leafV, ← HNB.out]
        have E := Lib.hid e
        clear e
        go_wp2_with fail
        refine (HNM.out _).mono ?_
        rintro e w2 ⟨rfl, rfl⟩
        go_wp2_with fail
        go_ret
        exact ⟨by rw [E.out]; rfl, HB0.out⟩
      | true =>
        cases bd with
        | false =>
          have e : R = 0 := by
            have hd : d ≠ 0 := fun h => by have := HQD.out.2 h; cases this
            rw [HLV.out]; simp [leafV, hd]
          have E := Lib.hid e
          clear e
          go_wp2_with fail
          refine (HNM.out _).mono ?_
          rintro e w2 ⟨rfl, rfl⟩
          go_wp2_with fail
          go_ret
          exact ⟨by rw [E.out]; rfl, HB0.out⟩
        | true =>
          have e : R = 1 := by
            have hd : d = 0 := HQD.out.1 rfl
            rw [HLV.out]; simp [leafV, hd, HQR.out, ← HNB.out]
          have E := Lib.hid e
          clear e
          go_wp2_with fail
          refine (HNM.out _).mono ?_
          rintro e w2 ⟨rfl, rfl⟩
          go_wp2_with fail
          go_ret
          exact ⟨by rw [E.out]; rfl, HB0.out⟩

set_option maxHeartbeats 2000000 in
set_option maxRecDepth 100000 in
theorem leaf_o (kd : Int) (h1 : kd ≠ 1) (h2 : kd ≠ 2) (h3 : kd ≠ 3) (r nm : ByteArray) (d : Int) (a : Option Addr) (len cap : Nat) (w : World) :
    Calls Tryd.prog 56 #[.agg #[.int .u8 kd, .string r, .string nm, .int .i64 d, .slice a len cap]] w (U8P w (lfV kd r nm d len)) := by
  obtain ⟨bl, ql⟩ : ∃ b, ((len : Int) == 0) = b := ⟨_, rfl⟩
  obtain ⟨br, qr⟩ : ∃ b, r.toList.isEmpty = b := ⟨_, rfl⟩
  obtain ⟨bn, qn⟩ : ∃ b, nm.toList.isEmpty = b := ⟨_, rfl⟩
  obtain ⟨bd, qd⟩ : ∃ b, ((d : Int) == 0) = b := ⟨_, rfl⟩
  obtain ⟨R, hR⟩ : ∃ R, R = lfV kd r nm d len := ⟨_, rfl⟩
  rw [← hR]
  have k1 : ((kd : Int) == 1) = false := ieq_false h1
  have k2 : ((kd : Int) == 2) = false := ieq_false h2
  have k3 : ((kd : Int) == 3) = false := ieq_false h3
  have e : R = 0 := by rw [hR]; unfold lfV; split; exact leaf_no r nm d h1 h2 h3; rfl
  clear h1 h2 h3
  clear hR
  go_enter Tryd.func56, Tryd.ntmps56
  go_upto_region 1 with (fail)
  obtain ⟨W0, hW0⟩ : ∃ W0, W0 = w.alloc (.cells #[.int .u8 kd, .string r, .string nm, .int .i64 d, .slice a len cap] 25) := ⟨_, rfl⟩
  have hbx : W0.heap[w.heap.size]? = some (.cells #[.int .u8 kd, .string r, .string nm, .int .i64 d, .slice a len cap] 25) := by rw [hW0]; exact heap_alloc_new w _
  have HB0 : Hid (Below w.heap.size w W0) := by rw [hW0]; exact own_below w _
  have hzW : w.heap.size < W0.heap.size := (Array.getElem?_eq_some_iff.1 hbx).1
  rw [← hW0]
  obtain ⟨c0, c1, c2, c3, c4⟩ := exCells hbx
  clear hW0 hbx
  have E := Lib.hid e
  clear e
  go_wp2_with fail
  go_ret
  exact ⟨by rw [E.out]; rfl, HB0.out⟩

theorem leaf_any (k : Int) (r nm : ByteArray) (d : Int) (a : Option Addr) (len cap : Nat) (w : World) (hr : r.size ≤ 2500) :
    Calls Tryd.prog 56 #[.agg #[.int .u8 k, .string r, .string nm, .int .i64 d, .slice a len cap]] w (U8P w (lfV k r nm d len)) := by
  by_cases h1 : k = 1
  · subst h1; exact leaf_1 r nm d a len cap w hr
  by_cases h2 : k = 2
  · subst h2; exact leaf_2 r nm d a len cap w
  by_cases h3 : k = 3
  · subst h3; exact leaf_3 r nm d a len cap w
  exact leaf_o k h1 h2 h3 r nm d a len cap w

end Go.Proofs.YtijkefflpojmhaaDoor

namespace Go.Proofs.YtijkefflpojmhaaDoor
open Go.RowKit Go.ChangeShapes Go.WideShapes Go.Deep

/-- Every kind is a byte. -/
def KOk : Nat → Ex → Prop
  | 0, _ => False
  | n + 1, x => (0 ≤ x.kind ∧ x.kind ≤ 255) ∧ ∀ y ∈ x.sub, KOk n y
theorem KOk.up : ∀ {n m : Nat} {x : Ex}, n ≤ m → KOk n x → KOk m x
  | 0, _, _, _, h => h.elim
  | n + 1, 0, _, hm, _ => absurd hm (by omega)
  | n + 1, m + 1, x, hm, ⟨h1, h2⟩ => ⟨h1, fun y hy => KOk.up (by omega) (h2 y hy)⟩
theorem u8_range {k : Int} (h : (Lit.int .u8 k).wf = true) : 0 ≤ k ∧ k ≤ 255 := by
  have h0 : IntKind.u8.min = 0 := rfl
  have h1 : IntKind.u8.max = 255 := rfl
  simp [Lit.wf] at h; omega
set_option maxRecDepth 100000 in
/-- A tree that came in, opened. -/
theorem open_exprk {H : Type} {enc : TypeId × Value → H} {w : World} {base : Nat} {spare : Nat → Bool} {held : Bool} : ∀ (fuel : Nat) {cs : List Value} {x : DataW H × List MemPlace},
    DataW.trod enc Tryd.prog w base spare held fuel 25 cs = some x → ∃ e, ExAt (fuel + 1) w cs e ∧ KOk (fuel + 1) e := by
  intro fuel
  induction fuel using Nat.strongRecOn with
  | ind fuel ih =>
    intro cs x h
    obtain ⟨xs, n, hfu, _, hlen, hxl, hf⟩ := DataW.trod_struct Tryd.underlying25 h
    subst hfu
    rw [cellsEx] at hlen
    match cs, hlen with
    | [c0, c1, c2, c3, c4], _ =>
      match xs, hxl with
      | [y0, y1, y2, y3, y4], _ =>
        have h0 := hf 0 ⟨"Kind", 5, 0, false, "", "", 0⟩ rfl
        have h1 := hf 1 ⟨"Rat", 22, 1, false, "", "", 8⟩ rfl
        have h2 := hf 2 ⟨"Name", 9, 2, false, "", "", 24⟩ rfl
        have h3 := hf 3 ⟨"Date", 3, 3, false, "", "", 40⟩ rfl
        have h4 := hf 4 ⟨"Sub", 23, 4, false, "", "", 48⟩ rfl
        simp only [cellsXInt, cellsXU8, cellsXStr, cellsXRat, cellsXSub, List.drop_succ_cons, List.drop_zero, List.take_succ_cons, List.take_zero, List.getElem?_cons_succ, List.getElem?_cons_zero] at h0 h1 h2 h3 h4
        obtain ⟨k, e0, _, hwf⟩ := DataW.trod_int Tryd.underlying5 h0
        have hkr := u8_range hwf
        obtain ⟨s1, e1, _, _⟩ := DataW.trod_string Tryd.underlying22 h1
        obtain ⟨s2, e2, _, _⟩ := DataW.trod_string Tryd.underlying9 h2
        obtain ⟨n3, e3, _, _⟩ := DataW.trod_int Tryd.underlying3 h3
        simp only [List.cons.injEq, and_true] at e0 e1 e2 e3
        subst e0 e1 e2 e3
        rcases DataW.trod_slice Tryd.underlying23 h4 with ⟨hcs, _⟩ | ⟨ad, len, cap, elems, rest, m, hfm, hcs, _, _, _, _, hel, hat, _, _⟩
        · simp only [List.cons.injEq, and_true] at hcs
          subst hcs
          exact ⟨.mk k s1 s2 n3 [], ⟨none, 0, 0, rfl, rfl, .inl rfl⟩, hkr, fun y hy => by cases hy⟩
        · simp only [List.cons.injEq, and_true] at hcs
          subst hcs
          subst hfm
          rw [cellsEx] at hat
          have hone : ∀ i, i < len → ∃ cs' e, (∀ j, j < 5 → w.cell? ((ad.add (i * 5)).add j) = cs'[j]?) ∧ ExAt (m + 1) w cs' e ∧ KOk (m + 1) e := fun i hi => by
            have ha := hat i hi
            rw [List.getElem?_eq_getElem (by omega)] at ha
            obtain ⟨cs', hc, ht⟩ := Option.bind_eq_some_iff.1 ha
            obtain ⟨_, _, hcell⟩ := World.cells?_some hc
            obtain ⟨e, he⟩ := ih m (by omega) ht
            exact ⟨cs', e, hcell, he⟩
          have hl2 : ∀ N, N ≤ len → ∃ l : List Ex, l.length = N ∧ ∀ i, i < N → ∃ cs', (∀ j, j < 5 → w.cell? ((ad.add (i * 5)).add j) = cs'[j]?) ∧ ExAt (m + 1) w cs' (l[i]?.getD default) ∧ KOk (m + 1) (l[i]?.getD default) := fun N => by
            induction N with
            | zero => exact fun _ => ⟨[], rfl, fun i hi => absurd hi (Nat.not_lt_zero _)⟩
            | succ N ihN =>
              intro hN
              obtain ⟨l, hl, hl2⟩ := ihN (by omega)
              obtain ⟨cs', e, hc, he⟩ := hone N (by omega)
              refine ⟨l ++ [e], by simp [hl], fun i hi => ?_⟩
              by_cases hiN : i = N
              · subst hiN
                rw [List.getElem?_append_right (by omega), hl, Nat.sub_self]
                exact ⟨cs', hc, he⟩
              · rw [List.getElem?_append_left (by omega)]
                exact hl2 i (by omega)
          obtain ⟨l, hl, hlc⟩ := hl2 len (Nat.le_refl _)
          have hks : ∀ y ∈ (Ex.mk k s1 s2 n3 l).sub, KOk (m + 1) y := fun y hy => by
            obtain ⟨i, hi, rfl⟩ := List.getElem_of_mem hy
            obtain ⟨_, _, _, hk⟩ := hlc i (by rw [← hl]; exact hi)
            have hi' : i < l.length := hi
            have e : l[i]?.getD default = (Ex.mk k s1 s2 n3 l).sub[i]'hi := by rw [List.getElem?_eq_getElem hi']; rfl
            rw [e] at hk
            exact hk
          refine ⟨.mk k s1 s2 n3 l, ⟨some ad, len, cap, rfl, hl, ?_⟩, hkr, fun y hy => KOk.up (by omega) (hks y hy)⟩
          by_cases h0 : len = 0
          · exact .inl h0
          · right
            obtain ⟨cs0, hc0, hx0, _⟩ := hlc 0 (by omega)
            have hcell0 : ∃ v, w.cell? ((ad.add (0 * 5)).add 0) = some v := by
              obtain ⟨_, _, _, hcs, _⟩ := hx0
              exact ⟨_, (hc0 0 (by omega)).trans (by rw [hcs]; rfl)⟩
            obtain ⟨v0, hv0⟩ := hcell0
            have hsp : ad.spot = none := addr_plainX (x := (ad.add (0 * 5)).add 0) hv0
            have hbl : ad.block < w.heap.size := cell_lt (a := (ad.add (0 * 5)).add 0) hv0
            obtain ⟨g, o, sp⟩ := ad
            subst hsp
            refine ⟨g, o, rfl, hbl, fun i hi => ?_⟩
            obtain ⟨cs', hc, hx, _⟩ := hlc i (by rw [← hl]; exact hi)
            refine ⟨cs', fun j hj => ?_, ?_⟩
            · have := hc j hj
              rwa [addrX, addrX] at this
            · have hi' : i < l.length := hi
              have e : l[i]?.getD default = (Ex.mk k s1 s2 n3 l).sub[i]'hi := by rw [List.getElem?_eq_getElem hi']; rfl
              rw [e] at hx
              exact ExAt.up (by omega) hx


/-- What a look-up among the shapes yields, in every later world. -/
def ShpAt (w : World) : Prop := ∃ bm, w.cell? ⟨1, 0, none⟩ = some (.map (some bm)) ∧ ∀ k : Int, 0 ≤ k → k ≤ 255 →
  (shpL k = none → ∀ W, Below w.heap.size w W → (Instr.lookup 97 (.map (some bm)) (.int .u8 k) true).run Tryd.prog W = .ok (.tuple #[.agg #[.slice none 0 0, .int .u8 0], .bool false]) W) ∧
  (∀ ps own, shpL k = some (ps, own) → ∃ g o cap, g < w.heap.size ∧ (∀ W, Below w.heap.size w W → (Instr.lookup 97 (.map (some bm)) (.int .u8 k) true).run Tryd.prog W = .ok (.tuple #[.agg #[.slice (some ⟨g, o, none⟩) ps.length cap, .int .u8 own], .bool true]) W) ∧
    ∀ i, i < ps.length → w.cell? ⟨g, o + i, none⟩ = some (.int .u8 (ps[i]?.getD 0)))
theorem ShpAt.below {w w' : World} (h : ShpAt w) (hb : Below w.heap.size w w') : ShpAt w' := by
  obtain ⟨bm, hc, hk⟩ := h
  refine ⟨bm, ((bcell hb).1 _ _ (cell_lt (a := ⟨_, 0, none⟩) hc)).trans hc, fun k h0 h1 => ⟨fun hs W hW => (hk k h0 h1).1 hs W (hb.trans (hW.mono hb.size)), fun ps own hs => ?_⟩⟩
  obtain ⟨g, o, cap, hg, hl, hcs⟩ := (hk k h0 h1).2 ps own hs
  exact ⟨g, o, cap, Nat.lt_of_lt_of_le hg hb.size, fun W hW => hl W (hb.trans (hW.mono hb.size)), fun i hi => ((bcell hb).1 _ _ hg).trans (hcs i hi)⟩

theorem gShapes : Tryd.prog.globalNamed "novation/observable.shapes" = some 1 := by kernel_rfl
theorem tShapes : (Tryd.prog.globals[1]?).map (·.type) = some 97 := by kernel_rfl
theorem cellsShp : Tryd.prog.cellsOf 95 = 2 := by kernel_rfl
theorem cellsSorts : Tryd.prog.cellsOf 93 = 1 := by kernel_rfl
theorem cellsSort : Tryd.prog.cellsOf 73 = 1 := by kernel_rfl
/-- The datum of a shape. -/
def shpD {H : Type} (ps : List Int) (own : Int) : DataW H := .agg [.slice (ps.map fun p => .lit (.int .u8 p)) [], .lit (.int .u8 own)]
set_option maxRecDepth 100000 in
theorem shp_key {H : Type} (k : Int) : (shpL k = none → (Rows.laid_novation_observable_shapes (H := H)).atKey (.int .u8 k) .nil = .nil) ∧ (∀ ps own, shpL k = some (ps, own) → (Rows.laid_novation_observable_shapes (H := H)).atKey (.int .u8 k) .nil = shpD ps own) := by
  by_cases h4 : k = 4
  · subst h4
    exact ⟨fun h => by simp [shpL] at h, fun ps own h => by simp [shpL] at h; obtain ⟨rfl, rfl⟩ := h; rfl⟩
  by_cases h5 : k = 5
  · subst h5
    exact ⟨fun h => by simp [shpL] at h, fun ps own h => by simp [shpL] at h; obtain ⟨rfl, rfl⟩ := h; rfl⟩
  by_cases h6 : k = 6
  · subst h6
    exact ⟨fun h => by simp [shpL] at h, fun ps own h => by simp [shpL] at h; obtain ⟨rfl, rfl⟩ := h; rfl⟩
  by_cases h7 : k = 7
  · subst h7
    exact ⟨fun h => by simp [shpL] at h, fun ps own h => by simp [shpL] at h; obtain ⟨rfl, rfl⟩ := h; rfl⟩
  by_cases h8 : k = 8
  · subst h8
    exact ⟨fun h => by simp [shpL] at h, fun ps own h => by simp [shpL] at h; obtain ⟨rfl, rfl⟩ := h; rfl⟩
  by_cases h9 : k = 9
  · subst h9
    exact ⟨fun h => by simp [shpL] at h, fun ps own h => by simp [shpL] at h; obtain ⟨rfl, rfl⟩ := h; rfl⟩
  by_cases h11 : k = 11
  · subst h11
    exact ⟨fun h => by simp [shpL] at h, fun ps own h => by simp [shpL] at h; obtain ⟨rfl, rfl⟩ := h; rfl⟩
  by_cases h12 : k = 12
  · subst h12
    exact ⟨fun h => by simp [shpL] at h, fun ps own h => by simp [shpL] at h; obtain ⟨rfl, rfl⟩ := h; rfl⟩
  by_cases h13 : k = 13
  · subst h13
    exact ⟨fun h => by simp [shpL] at h, fun ps own h => by simp [shpL] at h; obtain ⟨rfl, rfl⟩ := h; rfl⟩
  by_cases h14 : k = 14
  · subst h14
    exact ⟨fun h => by simp [shpL] at h, fun ps own h => by simp [shpL] at h; obtain ⟨rfl, rfl⟩ := h; rfl⟩
  by_cases h15 : k = 15
  · subst h15
    exact ⟨fun h => by simp [shpL] at h, fun ps own h => by simp [shpL] at h; obtain ⟨rfl, rfl⟩ := h; rfl⟩
  refine ⟨fun _ => ?_, fun ps own h => ?_⟩
  · simp [Rows.laid_novation_observable_shapes, DataW.atKey, Lit.sameKey, Ne.symm h4, Ne.symm h5, Ne.symm h6, Ne.symm h7, Ne.symm h8, Ne.symm h9, Ne.symm h11, Ne.symm h12, Ne.symm h13, Ne.symm h14, Ne.symm h15]
  · unfold shpL at h
    rw [if_neg (by omega), if_neg (by omega), if_neg (by omega), if_neg (by omega), if_neg (by omega)] at h
    cases h
set_option maxRecDepth 100000 in
/-- A shape that is laid, its cells. -/
theorem open_shape {H : Type} {enc : TypeId × Value → H} {w : World} {base : Nat} {spare : Nat → Bool} {held : Bool} {fuel : Nat} {cs : List Value} {ps : List Int} {own : Int} {q : List MemPlace} (hn : ps ≠ [])
    (h : DataW.trod enc Tryd.prog w base spare held fuel 95 cs = some (shpD ps own, q)) : ∃ g o cap, cs = [.slice (some ⟨g, o, none⟩) ps.length cap, .int .u8 own] ∧ g < w.heap.size ∧ ∀ i, i < ps.length → w.cell? ⟨g, o + i, none⟩ = some (.int .u8 (ps[i]?.getD 0)) := by
  obtain ⟨xs, n, _, hx, hlen, hxl, hf⟩ := DataW.trod_struct Tryd.underlying95 h
  rw [cellsShp] at hlen
  match cs, hlen with
  | [c0, c1], _ =>
    match xs, hxl with
    | [y0, y1], _ =>
      have h0 := hf 0 ⟨"parts", 93, 0, false, "", "novation/observable", 0⟩ rfl
      have h1 := hf 1 ⟨"own", 73, 1, false, "", "novation/observable", 24⟩ rfl
      simp only [cellsSorts, cellsSort, List.drop_succ_cons, List.drop_zero, List.take_succ_cons, List.take_zero, List.getElem?_cons_succ, List.getElem?_cons_zero] at h0 h1
      simp only [shpD, Prod.mk.injEq, DataW.agg.injEq, List.map_cons, List.map_nil, List.cons.injEq, and_true] at hx
      obtain ⟨⟨hy0, hy1⟩, _⟩ := hx
      obtain ⟨k, e1, e2, _⟩ := DataW.trod_int Tryd.underlying73 h1
      simp only [List.cons.injEq, and_true] at e1
      subst e1
      rw [e2] at hy1
      simp only [DataW.lit.injEq, Lit.int.injEq, true_and] at hy1
      subst hy1
      rcases DataW.trod_slice Tryd.underlying93 h0 with ⟨_, hx0⟩ | ⟨ad, len, cap, elems, rest, m, hfm, hcs, hx0, _, _, _, hel, hat, _, _⟩
      · rw [hx0] at hy0
        cases hy0
      · simp only [List.cons.injEq, and_true] at hcs
        subst hcs
        rw [hx0] at hy0
        simp only [DataW.slice.injEq] at hy0
        obtain ⟨hy0, _⟩ := hy0
        rw [cellsSort] at hat
        have hpl : ps.length = len := by
          have := congrArg List.length hy0
          simpa [hel] using this
        have hp0 : 0 < len := by
          rw [← hpl]; exact List.length_pos_iff.2 hn
        have hone : ∀ i, i < len → w.cell? (ad.add i) = some (.int .u8 (ps[i]?.getD 0)) := fun i hi => by
          have ha := hat i hi
          rw [List.getElem?_eq_getElem (by omega), Nat.mul_one] at ha
          obtain ⟨cs', hc, ht⟩ := Option.bind_eq_some_iff.1 ha
          obtain ⟨hl1, _, hcell⟩ := World.cells?_some hc
          obtain ⟨k, e1, e2, _⟩ := DataW.trod_int Tryd.underlying73 ht
          subst e1
          have h2 := hcell 0 (by decide)
          have hz : (ad.add i).add 0 = ad.add i := by simp [Addr.add]
          rw [hz] at h2
          rw [h2]
          have e3 : (elems.map (·.1))[i]? = (ps.map fun p => (DataW.lit (.int .u8 p) : DataW H))[i]? := by rw [hy0]
          rw [List.getElem?_map, List.getElem?_map, List.getElem?_eq_getElem (show i < elems.length by omega), List.getElem?_eq_getElem (show i < ps.length by omega)] at e3
          simp only [Option.map_some, Option.some.injEq] at e3
          rw [e2] at e3
          simp only [DataW.lit.injEq, Lit.int.injEq, true_and] at e3
          rw [List.getElem?_eq_getElem (show i < ps.length by omega)]
          simp [e3]
        have h00 := hone 0 hp0
        have hz : ad.add 0 = ad := by simp [Addr.add]
        rw [hz] at h00
        have hsp : ad.spot = none := addr_plainX h00
        have hbl : ad.block < w.heap.size := cell_lt h00
        obtain ⟨g, o, sp⟩ := ad
        subst hsp
        refine ⟨g, o, cap, by rw [hpl], hbl, fun i hi => ?_⟩
        have := hone i (by omega)
        rwa [addrX] at this
theorem keys_apart {H : Type} {P : Program} {k : TypeId} {R : Value → Option (DataW H × List MemPlace)} {es : Array MapEntry} {clock : Nat} (F : Go.WideElems.Fit P k R es clock) {a b : MapEntry} (ha : a ∈ es.toList) (hb : b ∈ es.toList) (hne : a ≠ b) : a.key ≠ b.key := by
  have hp := ((Go.MapKept.stamped_iff es clock).1 F.stamped).2.2
  obtain ⟨i, hi, rfl⟩ := List.getElem_of_mem ha
  obtain ⟨j, hj, rfl⟩ := List.getElem_of_mem hb
  rw [List.pairwise_iff_getElem] at hp
  rcases Nat.lt_trichotomy i j with h | h | h
  · exact hp i j hi hj h
  · subst h; exact absurd rfl hne
  · exact fun e => hp j i hj hi h e.symm
set_option maxRecDepth 100000 in
theorem agg_formed {v : Value} {l : List Value} (hf : v.formed Tryd.prog 95 = true) (hl : v.cells.toList = l) : v = .agg l.toArray := by
  unfold Value.formed at hf
  rw [Tryd.underlying95] at hf
  cases v <;> simp at hf
  rw [← hl]; rfl
theorem zeroShp (w : World) : (zeroValue 95).run Tryd.prog w = .ok (.agg #[.slice none 0 0, .int .u8 0]) w := by kernel_rfl
set_option maxRecDepth 100000 in
theorem laidShp {laid rest : List (String × DataW Unit)} (hl : laid = ("novation/observable.shapes", Rows.laid_novation_observable_shapes) :: rest) {W : World} (h : laidMet Tryd.prog laid W) : ShpAt W := by
  subst hl
  obtain ⟨ps, ⟨g0, t0, cs0, f0, p0, q0, hg0, ht0, hv0, hd0, _, _⟩, _, _⟩ := h
  obtain rfl := Option.some.inj (gShapes.symm.trans hg0)
  obtain rfl := Option.some.inj (tShapes.symm.trans ht0)
  rcases Go.WideElems.open_map Tryd.underlying97 hd0 with ⟨_, hx⟩ | ⟨bm, es, clock, m, rfl, hcs, hb, _, F, hx⟩
  · simp [Rows.laid_novation_observable_shapes] at hx
  simp only [Prod.mk.injEq] at hx
  have hcell : W.cell? ⟨1, 0, none⟩ = some (.map (some bm)) := by
    have := World.var?_cell hg0 hv0 0
    rw [Array.eq_one_of_toList hcs] at this
    simpa using this
  have hbl : bm < W.heap.size := (Array.getElem?_eq_some_iff.1 hb).1
  refine ⟨bm, hcell, fun k hk0 hk1 => ?_⟩
  have hkey : keyOf Tryd.prog 5 (.int .u8 k) = some (.int .u8 k) := Maps.keyOf_int_mk Tryd.underlying5 (by
    have h0 : IntKind.u8.min = 0 := rfl
    have h1 : IntKind.u8.max = 255 := rfl
    simp [Lit.wf]; omega)
  have look : ∀ W', Below W.heap.size W W' → _ := fun W' hW' => Maps.fit_look (w := W') true (Maps.int_keyed Tryd.underlying5) Tryd.underlying97 (zeroShp W') ((hW'.block _ hbl).trans hb) F hkey
  refine ⟨fun hs W' hW' => ?_, fun psl own hs => ?_⟩
  · rcases look W' hW' with ⟨hr, _, _⟩ | ⟨e0, y, _, _, _, hR, hat, _⟩
    · simpa using hr
    · have h2 := hat .nil
      rw [← hx.1, (shp_key k).1 hs] at h2
      unfold Go.WideElems.elemAt at hR
      split at hR
      · obtain ⟨xs, n, _, hxy, _⟩ := DataW.trod_struct Tryd.underlying95 hR
        rw [hxy] at h2
        cases h2
      · cases hR
  · rcases look W (Below.refl _ _) with ⟨_, _, hat⟩ | ⟨e0, y, hm0, hk0', _, hR, hat, _⟩
    · have h2 := hat .nil
      rw [← hx.1, (shp_key k).2 psl own hs] at h2
      cases h2
    · have h2 := hat .nil
      rw [← hx.1, (shp_key k).2 psl own hs] at h2
      unfold Go.WideElems.elemAt at hR
      split at hR
      · rename_i hfm
        obtain ⟨y1, y2⟩ := y
        have hy1 : shpD psl own = y1 := h2
        subst hy1
        obtain ⟨g, o, cap, hcs2, hg, hcells⟩ := open_shape (by
          intro e
          subst e
          unfold shpL at hs
          (repeat' split at hs) <;> simp at hs) hR
        have hval : e0.val = .agg #[.slice (some ⟨g, o, none⟩) psl.length cap, .int .u8 own] := by
          exact agg_formed hfm hcs2
        refine ⟨g, o, cap, hg, fun W' hW' => ?_, hcells⟩
        rcases look W' hW' with ⟨_, hne, _⟩ | ⟨e1, y1, hm1, hk1', hr, _, _, _⟩
        · exact absurd hk0' (hne e0 hm0)
        · have e01 : e1 = e0 := by
            by_cases h : e1 = e0
            · exact h
            · exfalso
              exact keys_apart F hm1 hm0 h (hk1'.trans hk0'.symm)
          rw [e01, hval] at hr
          simpa using hr
      · cases hR

end Go.Proofs.YtijkefflpojmhaaDoor

namespace Go.Proofs.YtijkefflpojmhaaDoor
open Go.RowKit Go.ChangeShapes Go.WideShapes Go.Deep

/-- A contract. -/
inductive Ct where
  | mk (kind : Int) (frm too name : ByteArray) (expr : Ex) (date : Int) (dates : List Int) (sub : List Ct)
namespace Ct
def kind : Ct → Int | .mk k _ _ _ _ _ _ _ => k
def frm : Ct → ByteArray | .mk _ f _ _ _ _ _ _ => f
def too : Ct → ByteArray | .mk _ _ t _ _ _ _ _ => t
def name : Ct → ByteArray | .mk _ _ _ n _ _ _ _ => n
def expr : Ct → Ex | .mk _ _ _ _ e _ _ _ => e
def date : Ct → Int | .mk _ _ _ _ _ d _ _ => d
def dates : Ct → List Int | .mk _ _ _ _ _ _ l _ => l
def sub : Ct → List Ct | .mk _ _ _ _ _ _ _ l => l
/-- How many nodes, each with its expression's nodes (a bare one counts too). -/
def size : Ct → Nat
  | .mk _ _ _ _ e _ _ l => 1 + e.size + (l.attach.map fun x => x.1.size).sum
termination_by x => SizeOf.sizeOf x
decreasing_by
  have := List.sizeOf_lt_of_mem x.2
  simp only [Ct.mk.sizeOf_spec]
  omega
theorem size_is (x : Ct) : x.size = 1 + x.expr.size + (x.sub.map size).sum := by
  cases x with
  | mk k f t n e d ds l =>
    rw [size]
    show _ = 1 + e.size + (l.map size).sum
    rw [show (l.attach.map fun x => x.1.size) = l.map size from List.attach_map_val (l := l) (f := size)]
theorem size_pos (x : Ct) : 1 ≤ x.size := by rw [size_is]; omega
theorem sum_ge (l : List Ct) : l.length ≤ (l.map size).sum := by
  induction l with
  | nil => simp
  | cons x l ih =>
    have := size_pos x
    rw [List.map_cons, List.sum_cons, List.length_cons]; omega
theorem sub_len (x : Ct) : x.sub.length < x.size := by
  rw [size_is x]
  have := sum_ge x.sub
  omega
theorem sub_size {x y : Ct} (h : y ∈ x.sub) : y.size < x.size := by
  rw [size_is x]
  have : y.size ≤ (x.sub.map size).sum := by
    obtain ⟨i, hi, rfl⟩ := List.getElem_of_mem h
    have : x.sub.map size = (x.sub.take i).map size ++ (x.sub[i].size :: (x.sub.drop (i + 1)).map size) := by
      rw [← List.map_cons, ← List.drop_eq_getElem_cons hi, ← List.map_append, List.take_append_drop]
    rw [this, List.sum_append, List.sum_cons]; omega
  omega
theorem expr_size (x : Ct) : x.expr.size < x.size := by rw [size_is x]; omega
end Ct
instance : Inhabited Ct := ⟨.mk 0 ByteArray.empty ByteArray.empty ByteArray.empty default 0 [] []⟩

/-- The cells of a contract: those of its expression, its days, its parts given. -/
def ctCells (x : Ct) (ea : Option Addr) (el ec : Nat) (da : Option Addr) (dl dc : Nat) (a : Option Addr) (len cap : Nat) : List Value :=
  [.int .u8 x.kind, .string x.frm, .string x.too, .string x.name, .int .u8 x.expr.kind, .string x.expr.rat, .string x.expr.name, .int .i64 x.expr.date, .slice ea el ec, .int .i64 x.date, .slice da dl dc, .slice a len cap]
/-- Days in memory. -/
def DaysAt (w : World) (da : Option Addr) (dl : Nat) (l : List Int) : Prop :=
  l.length = dl ∧ (dl = 0 ∨ ∃ g o, da = some ⟨g, o, none⟩ ∧ g < w.heap.size ∧ ∀ i, i < dl → w.cell? ⟨g, o + i, none⟩ = some (.int .i64 (l[i]?.getD 0)))
theorem DaysAt.below {w w' : World} (hb : Below w.heap.size w w') {da : Option Addr} {dl : Nat} {l : List Int} (h : DaysAt w da dl l) : DaysAt w' da dl l :=
  ⟨h.1, h.2.imp id fun ⟨g, o, ha, hg, hi⟩ => ⟨g, o, ha, Nat.lt_of_lt_of_le hg hb.size, fun i h => ((bcell hb).1 _ _ hg).trans (hi i h)⟩⟩
def CtAt : Nat → World → List Value → Ct → Prop
  | 0, _, _, _ => False
  | n + 1, w, cs, x => ∃ ea el ec da dl dc a len cap, cs = ctCells x ea el ec da dl dc a len cap ∧
      ExAt (n + 1) w [.int .u8 x.expr.kind, .string x.expr.rat, .string x.expr.name, .int .i64 x.expr.date, .slice ea el ec] x.expr ∧ DaysAt w da dl x.dates ∧ x.sub.length = len ∧
      (len = 0 ∨ ∃ g o, a = some ⟨g, o, none⟩ ∧ g < w.heap.size ∧ ∀ i (hi : i < x.sub.length), ∃ cs', (∀ j, j < 12 → w.cell? ⟨g, o + i * 12 + j, none⟩ = cs'[j]?) ∧ CtAt n w cs' x.sub[i])
theorem CtAt.below {w w' : World} (hb : Below w.heap.size w w') : ∀ {n : Nat} {cs : List Value} {x : Ct}, CtAt n w cs x → CtAt n w' cs x
  | 0, _, _, h => h
  | n + 1, cs, x, ⟨ea, el, ec, da, dl, dc, a, len, cap, h1, he, hd, h2, h3⟩ => ⟨ea, el, ec, da, dl, dc, a, len, cap, h1, ExAt.below hb he, hd.below hb, h2, h3.imp id fun ⟨g, o, ha, hg, hi⟩ => ⟨g, o, ha, Nat.lt_of_lt_of_le hg hb.size, fun i h => by
      obtain ⟨cs', hc, hx⟩ := hi i h
      exact ⟨cs', fun j hj => ((bcell hb).1 _ _ hg).trans (hc j hj), CtAt.below hb hx⟩⟩⟩
theorem CtAt.up {w : World} : ∀ {n m : Nat} {cs : List Value} {x : Ct}, n ≤ m → CtAt n w cs x → CtAt m w cs x
  | 0, _, _, _, _, h => h.elim
  | n + 1, 0, _, _, hm, _ => absurd hm (by omega)
  | n + 1, m + 1, cs, x, hm, ⟨ea, el, ec, da, dl, dc, a, len, cap, h1, he, hd, h2, h3⟩ => ⟨ea, el, ec, da, dl, dc, a, len, cap, h1, ExAt.up hm he, hd, h2, h3.imp id fun ⟨g, o, ha, hg, hi⟩ => ⟨g, o, ha, hg, fun i h => by
      obtain ⟨cs', hc, hx⟩ := hi i h
      exact ⟨cs', hc, CtAt.up (by omega) hx⟩⟩⟩
theorem CtAt.shape : ∀ {n : Nat} {w : World} {cs : List Value} {x : Ct}, CtAt n w cs x → ∃ ea el ec da dl dc a len cap, cs = ctCells x ea el ec da dl dc a len cap ∧ x.dates.length = dl ∧ x.sub.length = len
  | 0, _, _, _, h => h.elim
  | _ + 1, _, _, _, ⟨ea, el, ec, da, dl, dc, a, len, cap, h1, _, hd, h2, _⟩ => ⟨ea, el, ec, da, dl, dc, a, len, cap, h1, hd.1, h2⟩
/-- Every kind is a byte. -/
def CKOk : Nat → Ct → Prop
  | 0, _ => False
  | n + 1, x => (0 ≤ x.kind ∧ x.kind ≤ 255) ∧ KOk (n + 1) x.expr ∧ ∀ y ∈ x.sub, CKOk n y
theorem CKOk.up : ∀ {n m : Nat} {x : Ct}, n ≤ m → CKOk n x → CKOk m x
  | 0, _, _, _, h => h.elim
  | n + 1, 0, _, hm, _ => absurd hm (by omega)
  | n + 1, m + 1, x, hm, ⟨h1, he, h2⟩ => ⟨h1, KOk.up hm he, fun y hy => CKOk.up (by omega) (h2 y hy)⟩

theorem cellsCt : Tryd.prog.cellsOf 29 = 12 := by kernel_rfl
theorem cellsCSub : Tryd.prog.cellsOf 27 = 1 := by kernel_rfl
theorem cellsCInts : Tryd.prog.cellsOf 26 = 1 := by kernel_rfl
/-- Days that came in. -/
theorem open_days {H : Type} {enc : TypeId × Value → H} {w : World} {base : Nat} {spare : Nat → Bool} {held : Bool} {fuel : Nat} {cs : List Value} {x : DataW H × List MemPlace}
    (h : DataW.trod enc Tryd.prog w base spare held fuel 26 cs = some x) : ∃ da dl dc l, cs = [.slice da dl dc] ∧ DaysAt w da dl l := by
  rcases DataW.trod_slice Tryd.underlying26 h with ⟨hcs, _⟩ | ⟨ad, len, cap, elems, rest, m, hfm, hcs, _, _, _, _, hel, hat, _, _⟩
  · exact ⟨none, 0, 0, [], hcs, rfl, .inl rfl⟩
  · rw [cellsXInt] at hat
    have hone : ∀ i, i < len → ∃ k : Int, w.cell? (ad.add i) = some (.int .i64 k) := fun i hi => by
      have ha := hat i hi
      rw [List.getElem?_eq_getElem (by omega), Nat.mul_one] at ha
      obtain ⟨cs', hc, ht⟩ := Option.bind_eq_some_iff.1 ha
      obtain ⟨_, _, hcell⟩ := World.cells?_some hc
      obtain ⟨k, e1, _, _⟩ := DataW.trod_int Tryd.underlying3 ht
      subst e1
      have h2 := hcell 0 (by decide)
      have hz : (ad.add i).add 0 = ad.add i := by simp [Addr.add]
      rw [hz] at h2
      exact ⟨k, h2⟩
    have hl2 : ∀ N, N ≤ len → ∃ l : List Int, l.length = N ∧ ∀ i, i < N → w.cell? (ad.add i) = some (.int .i64 (l[i]?.getD 0)) := fun N => by
      induction N with
      | zero => exact fun _ => ⟨[], rfl, fun i hi => absurd hi (Nat.not_lt_zero _)⟩
      | succ N ihN =>
        intro hN
        obtain ⟨l, hl, hl2⟩ := ihN (by omega)
        obtain ⟨k, hc⟩ := hone N (by omega)
        refine ⟨l ++ [k], by simp [hl], fun i hi => ?_⟩
        by_cases hiN : i = N
        · subst hiN
          rw [List.getElem?_append_right (by omega), hl, Nat.sub_self]
          exact hc
        · rw [List.getElem?_append_left (by omega)]
          exact hl2 i (by omega)
    obtain ⟨l, hl, hlc⟩ := hl2 len (Nat.le_refl _)
    refine ⟨some ad, len, cap, l, hcs, hl, ?_⟩
    by_cases h0 : len = 0
    · exact .inl h0
    · right
      have h00 := hlc 0 (by omega)
      have hz : ad.add 0 = ad := by simp [Addr.add]
      rw [hz] at h00
      have hsp : ad.spot = none := addr_plainX h00
      have hbl : ad.block < w.heap.size := cell_lt h00
      obtain ⟨g, o, sp⟩ := ad
      subst hsp
      refine ⟨g, o, rfl, hbl, fun i hi => ?_⟩
      have := hlc i hi
      rwa [addrX] at this
set_option maxRecDepth 100000 in
/-- A contract that came in, opened. -/
theorem open_ct {H : Type} {enc : TypeId × Value → H} {w : World} {base : Nat} {spare : Nat → Bool} {held : Bool} : ∀ (fuel : Nat) {cs : List Value} {x : DataW H × List MemPlace},
    DataW.trod enc Tryd.prog w base spare held fuel 29 cs = some x → ∃ e, CtAt (fuel + 1) w cs e ∧ CKOk (fuel + 1) e := by
  intro fuel
  induction fuel using Nat.strongRecOn with
  | ind fuel ih =>
    intro cs x h
    obtain ⟨xs, n, hfu, _, hlen, hxl, hf⟩ := DataW.trod_struct Tryd.underlying29 h
    subst hfu
    rw [cellsCt] at hlen
    match cs, hlen with
    | [c0, c1, c2, c3, c4, c5, c6, c7, c8, c9, ca, cb], _ =>
      match xs, hxl with
      | [y0, y1, y2, y3, y4, y5, y6, y7], _ =>
        have h0 := hf 0 ⟨"Kind", 5, 0, false, "", "", 0⟩ rfl
        have h1 := hf 1 ⟨"From", 9, 1, false, "", "", 8⟩ rfl
        have h2 := hf 2 ⟨"To", 9, 2, false, "", "", 24⟩ rfl
        have h3 := hf 3 ⟨"Name", 9, 3, false, "", "", 40⟩ rfl
        have h4 := hf 4 ⟨"Expr", 25, 4, false, "", "", 56⟩ rfl
        have h5 := hf 5 ⟨"Date", 3, 9, false, "", "", 128⟩ rfl
        have h6 := hf 6 ⟨"Dates", 26, 10, false, "", "", 136⟩ rfl
        have h7 := hf 7 ⟨"Sub", 27, 11, false, "", "", 160⟩ rfl
        simp only [cellsXInt, cellsXU8, cellsXStr, cellsEx, cellsCSub, cellsCInts, List.drop_succ_cons, List.drop_zero, List.take_succ_cons, List.take_zero, List.getElem?_cons_succ, List.getElem?_cons_zero] at h0 h1 h2 h3 h4 h5 h6 h7
        obtain ⟨k, e0, _, hwf⟩ := DataW.trod_int Tryd.underlying5 h0
        have hkr := u8_range hwf
        obtain ⟨s1, e1, _, _⟩ := DataW.trod_string Tryd.underlying9 h1
        obtain ⟨s2, e2, _, _⟩ := DataW.trod_string Tryd.underlying9 h2
        obtain ⟨s3, e3, _, _⟩ := DataW.trod_string Tryd.underlying9 h3
        obtain ⟨n5, e5, _, _⟩ := DataW.trod_int Tryd.underlying3 h5
        simp only [List.cons.injEq, and_true] at e0 e1 e2 e3 e5
        subst e0 e1 e2 e3 e5
        obtain ⟨ex, hex, hek⟩ := open_exprk n h4
        obtain ⟨ea, el, ec, hes, _⟩ := hex.shape
        simp only [List.cons.injEq, and_true] at hes
        obtain ⟨rfl, rfl, rfl, rfl, rfl⟩ := hes
        obtain ⟨da, dl, dc, ds, hds, hday⟩ := open_days h6
        simp only [List.cons.injEq, and_true] at hds
        subst hds
        rcases DataW.trod_slice Tryd.underlying27 h7 with ⟨hcs, _⟩ | ⟨ad, len, cap, elems, rest, m, hfm, hcs, _, _, _, _, hel, hat, _, _⟩
        · simp only [List.cons.injEq, and_true] at hcs
          subst hcs
          exact ⟨.mk k s1 s2 s3 ex n5 ds [], ⟨ea, el, ec, da, dl, dc, none, 0, 0, rfl, ExAt.up (by omega) hex, hday, rfl, .inl rfl⟩, hkr, KOk.up (by omega) hek, fun y hy => by cases hy⟩
        · simp only [List.cons.injEq, and_true] at hcs
          subst hcs
          subst hfm
          rw [cellsCt] at hat
          have hone : ∀ i, i < len → ∃ cs' e, (∀ j, j < 12 → w.cell? ((ad.add (i * 12)).add j) = cs'[j]?) ∧ CtAt (m + 1) w cs' e ∧ CKOk (m + 1) e := fun i hi => by
            have ha := hat i hi
            rw [List.getElem?_eq_getElem (by omega)] at ha
            obtain ⟨cs', hc, ht⟩ := Option.bind_eq_some_iff.1 ha
            obtain ⟨_, _, hcell⟩ := World.cells?_some hc
            obtain ⟨e, he⟩ := ih m (by omega) ht
            exact ⟨cs', e, hcell, he⟩
          have hl2 : ∀ N, N ≤ len → ∃ l : List Ct, l.length = N ∧ ∀ i, i < N → ∃ cs', (∀ j, j < 12 → w.cell? ((ad.add (i * 12)).add j) = cs'[j]?) ∧ CtAt (m + 1) w cs' (l[i]?.getD default) ∧ CKOk (m + 1) (l[i]?.getD default) := fun N => by
            induction N with
            | zero => exact fun _ => ⟨[], rfl, fun i hi => absurd hi (Nat.not_lt_zero _)⟩
            | succ N ihN =>
              intro hN
              obtain ⟨l, hl, hl2⟩ := ihN (by omega)
              obtain ⟨cs', e, hc, he⟩ := hone N (by omega)
              refine ⟨l ++ [e], by simp [hl], fun i hi => ?_⟩
              by_cases hiN : i = N
              · subst hiN
                rw [List.getElem?_append_right (by omega), hl, Nat.sub_self]
                exact ⟨cs', hc, he⟩
              · rw [List.getElem?_append_left (by omega)]
                exact hl2 i (by omega)
          obtain ⟨l, hl, hlc⟩ := hl2 len (Nat.le_refl _)
          have hks : ∀ y ∈ (Ct.mk k s1 s2 s3 ex n5 ds l).sub, CKOk (m + 1) y := fun y hy => by
            obtain ⟨i, hi, rfl⟩ := List.getElem_of_mem hy
            obtain ⟨_, _, _, hk⟩ := hlc i (by rw [← hl]; exact hi)
            have hi' : i < l.length := hi
            have e : l[i]?.getD default = (Ct.mk k s1 s2 s3 ex n5 ds l).sub[i]'hi := by rw [List.getElem?_eq_getElem hi']; rfl
            rw [e] at hk
            exact hk
          refine ⟨.mk k s1 s2 s3 ex n5 ds l, ⟨ea, el, ec, da, dl, dc, some ad, len, cap, rfl, ExAt.up (by omega) hex, hday, hl, ?_⟩, hkr, KOk.up (by omega) hek, fun y hy => CKOk.up (by omega) (hks y hy)⟩
          by_cases h0 : len = 0
          · exact .inl h0
          · right
            obtain ⟨cs0, hc0, hx0, _⟩ := hlc 0 (by omega)
            have hcell0 : ∃ v, w.cell? ((ad.add (0 * 12)).add 0) = some v := by
              obtain ⟨_, _, _, _, _, _, _, _, _, hcs, _⟩ := hx0.shape
              exact ⟨_, (hc0 0 (by omega)).trans (by rw [hcs]; rfl)⟩
            obtain ⟨v0, hv0⟩ := hcell0
            have hsp : ad.spot = none := addr_plainX (x := (ad.add (0 * 12)).add 0) hv0
            have hbl : ad.block < w.heap.size := cell_lt (a := (ad.add (0 * 12)).add 0) hv0
            obtain ⟨g, o, sp⟩ := ad
            subst hsp
            refine ⟨g, o, rfl, hbl, fun i hi => ?_⟩
            obtain ⟨cs', hc, hx, _⟩ := hlc i (by rw [← hl]; exact hi)
            refine ⟨cs', fun j hj => ?_, ?_⟩
            · have := hc j hj
              rwa [addrX, addrX] at this
            · have hi' : i < l.length := hi
              have e : l[i]?.getD default = (Ct.mk k s1 s2 s3 ex n5 ds l).sub[i]'hi := by rw [List.getElem?_eq_getElem hi']; rfl
              rw [e] at hx
              exact CtAt.up (by omega) hx

end Go.Proofs.YtijkefflpojmhaaDoor

namespace Go.Proofs.YtijkefflpojmhaaDoor
open Go.RowKit

end Go.Proofs.YtijkefflpojmhaaDoor

namespace Go.Proofs.YtijkefflpojmhaaDoor
open Go.RowKit

end Go.Proofs.YtijkefflpojmhaaDoor

namespace Go.Proofs.YtijkefflpojmhaaDoor
open Go.RowKit

end Go.Proofs.YtijkefflpojmhaaDoor

namespace Go.Proofs.YtijkefflpojmhaaDoor
open Go.RowKit

end Go.Proofs.YtijkefflpojmhaaDoor

namespace Go.Proofs.YtijkefflpojmhaaDoor
open Go.RowKit

def PsC (n : Nat) (Wg : World) : Prop := ∀ (x : Ex) (cs : List Value) (w : World), ExAt n w cs x → KOk n x → x.size ≤ 1000 → (∃ dd, SmX dd x) → Below Wg.heap.size Wg w →
  Calls Tryd.prog 39 #[.agg cs.toArray] w (U8P w (srtP x.kind x.rat x.name x.date (x.sub.map Ex.srt)))
theorem lfV_is {k : Int} {r n : ByteArray} {d : Int} {l : List Ex} {len : Nat} (hs : shpL k = none) (hl : l.length = len) : lfV k r n d len = srtP k r n d (l.map Ex.srt) := by
  unfold lfV
  split
  · rename_i h
    have : l = [] := List.eq_nil_of_length_eq_zero (by omega)
    subst this
    exact (srt_leaf hs rfl).symm
  · rename_i h
    exact (srt_leaf_no hs (by intro e; rw [List.map_eq_nil_iff] at e; rw [e] at hl; exact h hl.symm)).symm

set_option maxHeartbeats 2000000 in
set_option maxRecDepth 100000 in
theorem psort_leaf (kd : Int) (r nm : ByteArray) (d : Int) (a : Option Addr) (len cap : Nat) (l : List Ex) (w Wg : World) (hk0 : 0 ≤ kd) (hk1 : kd ≤ 255) (hs : shpL kd = none) (hr : r.size ≤ 2500) (hl : l.length = len) (hg : ShpAt Wg) (hb : Below Wg.heap.size Wg w) :
    Calls Tryd.prog 39 #[.agg #[.int .u8 kd, .string r, .string nm, .int .i64 d, .slice a len cap]] w (U8P w (srtP kd r nm d (l.map Ex.srt))) := by
  rw [← lfV_is hs hl]
  obtain ⟨W0, hW0⟩ : ∃ W0, W0 = w.alloc (.cells #[.int .u8 kd, .string r, .string nm, .int .i64 d, .slice a len cap] 25) := ⟨_, rfl⟩
  have hB0 : Below w.heap.size w W0 := by rw [hW0]; exact own_below w _
  have hbx : W0.heap[w.heap.size]? = some (.cells #[.int .u8 kd, .string r, .string nm, .int .i64 d, .slice a len cap] 25) := by rw [hW0]; exact heap_alloc_new w _
  have hbg : Below Wg.heap.size Wg W0 := hb.trans (hB0.mono hb.size)
  obtain ⟨bm, hc, hkk⟩ := hg
  have hlook := (hkk kd hk0 hk1).1 hs W0 hbg
  have hgc : W0.cell? ⟨1, 0, none⟩ = some (.map (some bm)) := ((bcell hbg).1 _ _ (cell_lt (a := ⟨_, 0, none⟩) hc)).trans hc
  have HLF : Hid (∀ W, Calls Tryd.prog 56 #[.agg #[.int .u8 kd, .string r, .string nm, .int .i64 d, .slice a len cap]] W (U8P W (lfV kd r nm d len))) := fun W => leaf_any kd r nm d a len cap W hr
  obtain ⟨R, hR⟩ : ∃ R, R = lfV kd r nm d len := ⟨_, rfl⟩
  rw [← hR] at HLF ⊢
  obtain ⟨c0, c1, c2, c3, c4⟩ := exCells hbx
  have hz : w.heap.size < W0.heap.size := (Array.getElem?_eq_some_iff.1 hbx).1
  have HW0 := Lib.hid hW0
  have HB0 := Lib.hid hB0
  clear hR hW0 hB0 hbx hbg hc hkk hs hl hr hb hk0 hk1
  go_enter Tryd.func39, Tryd.ntmps39
  go_upto_region 1 with (fail)
  rw [← HW0.out]
  clear HW0
  go_wp2_with fail
  refine (HLF.out _).mono ?_
  rintro e w2 ⟨rfl, hb2⟩
  have HB2 := Lib.hid (((HB0.out.alloc HB0.out.size (.cells #[.slice none 0 0, .int .u8 0] 95))).trans (hb2.mono (by have := HB0.out.size; rw [World.size_alloc]; omega)))
  clear hb2
  go_wp2_with fail
  go_ret
  exact ⟨rfl, HB2.out⟩

theorem ine_false {a b : Int} (h : a = b) : (a != b) = false := by simpa using h
theorem ine_true {a b : Int} (h : a ≠ b) : (a != b) = true := by simpa using h
/-- The parts that are right so far. -/
def PsR (W2 : World) (l : List Ex) (ps : List Int) (len : Nat) (iv : Value) (wr : World) : Prop :=
  ∃ k : Nat, k ≤ len ∧ iv = .int .i64 (k : Int) ∧ Hid (∀ i, i < k → ((l.map Ex.srt)[i]?.getD 0) = (ps[i]?.getD 0)) ∧ Below W2.heap.size W2 wr
theorem list_ext_getD {l ps : List Int} (hl : l.length = ps.length) (h : ∀ i, i < l.length → l[i]?.getD 0 = ps[i]?.getD 0) : l = ps := by
  apply List.ext_getElem hl
  intro i h1 h2
  have := h i h1
  rwa [List.getElem?_eq_getElem h1, List.getElem?_eq_getElem h2] at this

set_option maxHeartbeats 4000000 in
set_option maxRecDepth 100000 in
theorem psort_parts {n : Nat} {Wg : World} (ih : PsC n Wg) (kd : Int) (r nm : ByteArray) (d : Int) (a : Option Addr) (len cap : Nat) (l : List Ex) (ps : List Int) (own : Int) (w : World) (hk0 : 0 ≤ kd) (hk1 : kd ≤ 255) (hs : shpL kd = some (ps, own)) (hl : l.length = len) (hlb : len ≤ 1000) (hg : ShpAt Wg) (hb : Below Wg.heap.size Wg w)
    (hko : ∀ y ∈ l, KOk n y) (hzy : ∀ y ∈ l, y.size ≤ 1000) (hse : ∀ y ∈ l, ∃ dd, SmX dd y)
    (hat : len = 0 ∨ ∃ g o, a = some ⟨g, o, none⟩ ∧ g < w.heap.size ∧ ∀ i (hi : i < l.length), ∃ cs', (∀ j, j < 5 → w.cell? ⟨g, o + i * 5 + j, none⟩ = cs'[j]?) ∧ ExAt n w cs' l[i]) :
    Calls Tryd.prog 39 #[.agg #[.int .u8 kd, .string r, .string nm, .int .i64 d, .slice a len cap]] w (U8P w (srtP kd r nm d (l.map Ex.srt))) := by
  obtain ⟨W0, hW0⟩ : ∃ W0, W0 = w.alloc (.cells #[.int .u8 kd, .string r, .string nm, .int .i64 d, .slice a len cap] 25) := ⟨_, rfl⟩
  have hB0 : Below w.heap.size w W0 := by rw [hW0]; exact own_below w _
  have hbx : W0.heap[w.heap.size]? = some (.cells #[.int .u8 kd, .string r, .string nm, .int .i64 d, .slice a len cap] 25) := by rw [hW0]; exact heap_alloc_new w _
  have hbg : Below Wg.heap.size Wg W0 := hb.trans (hB0.mono hb.size)
  obtain ⟨bm, hc, hkk⟩ := hg
  obtain ⟨gs, os, cs, hgs, hlook', hcells⟩ := (hkk kd hk0 hk1).2 ps own hs
  have hlook := hlook' W0 hbg
  have hgc : W0.cell? ⟨1, 0, none⟩ = some (.map (some bm)) := ((bcell hbg).1 _ _ (cell_lt (a := ⟨_, 0, none⟩) hc)).trans hc
  have HPC : Hid (∀ W, Below Wg.heap.size Wg W → ∀ i, i < ps.length → W.cell? ⟨gs, os + i, none⟩ = some (.int .u8 (ps[i]?.getD 0))) := fun W hW i hi => ((bcell hW).1 _ _ hgs).trans (hcells i hi)
  obtain ⟨m, hm⟩ : ∃ m, m = ps.length := ⟨_, rfl⟩
  rw [← hm] at hlook HPC
  have hm3 : m ≤ 3 := by rw [hm]; exact (shpL_pos hs).2
  obtain ⟨bl, ql⟩ : ∃ b, ((len : Int) != (m : Int)) = b := ⟨_, rfl⟩
  obtain ⟨br, qr⟩ : ∃ b, r.toList.isEmpty = b := ⟨_, rfl⟩
  obtain ⟨bn, qn⟩ : ∃ b, nm.toList.isEmpty = b := ⟨_, rfl⟩
  obtain ⟨bd, qd⟩ : ∃ b, ((d : Int) != 0) = b := ⟨_, rfl⟩
  have HQL : Hid (bl = false ↔ len = m) := by show bl = false ↔ _; rw [← ql]; simp; omega
  have HQB : Hid (bareB r nm d = (br && bn && !bd)) := by
    show bareB r nm d = _
    unfold bareB
    rw [← qr, ← qn, ← qd, toList_data, toList_data, bne, Bool.not_not]
  obtain ⟨R, hR⟩ : ∃ R, R = srtP kd r nm d (l.map Ex.srt) := ⟨_, rfl⟩
  rw [← hR]
  have HRR := Lib.hid hR
  have HSH := Lib.hid hs
  obtain ⟨c0, c1, c2, c3, c4⟩ := exCells hbx
  have hz : w.heap.size < W0.heap.size := (Array.getElem?_eq_some_iff.1 hbx).1
  have HW0 := Lib.hid hW0
  have HB0 := Lib.hid hB0
  have HBG := Lib.hid hbg
  have HBX := Lib.hid hbx
  have HM := Lib.hid hm
  have HL := Lib.hid hl
  have HI := Lib.hid ih
  have HKO := Lib.hid hko
  have HZY := Lib.hid hzy
  have HSE := Lib.hid hse
  have HAT := Lib.hid hat
  obtain ⟨W1, hW1⟩ : ∃ W1, W1 = W0.alloc (.cells #[.slice (some ⟨gs, os, none⟩) m cs, .int .u8 own] 95) := ⟨_, rfl⟩
  have hB1 : Below w.heap.size w W1 := by rw [hW1]; exact hB0.alloc hB0.size _
  have hsb : W1.heap[W0.heap.size]? = some (.cells #[.slice (some ⟨gs, os, none⟩) m cs, .int .u8 own] 95) := by rw [hW1]; exact heap_alloc_new W0 _
  have hbx1 : W1.heap[w.heap.size]? = some (.cells #[.int .u8 kd, .string r, .string nm, .int .i64 d, .slice a len cap] 25) := by rw [hW1]; exact (Below.heap_alloc W0 _ _ hz).trans hbx
  have HB1 := Lib.hid hB1
  have HSB := Lib.hid hsb
  have HBX1 := Lib.hid hbx1
  have HG1 : Hid (Below Wg.heap.size Wg W1) := hb.trans (hB1.mono hb.size)
  have HW1 := Lib.hid hW1
  have hz1 : W0.heap.size < W1.heap.size := (Array.getElem?_eq_some_iff.1 hsb).1
  clear hR hW0 hB0 hbx hbg hc hkk hs hl hb hk0 hk1 hlook' hcells hm ih hko hzy hse hat hB1 hsb hbx1 hgs hW1
  go_enter Tryd.func39, Tryd.ntmps39
  go_upto_region 1 with (fail)
  rw [← HW0.out]
  clear HW0
  go_upto_region 2 with (fail)
  rw [← HW1.out]
  clear HW1 c0 c1 c2 c3 c4
  obtain ⟨c0, c1, c2, c3, c4⟩ := exCells HBX1.out
  have s0 : W1.cell? ⟨W0.heap.size, 0, none⟩ = some (.slice (some ⟨gs, os, none⟩) m cs) := exCell HSB.out 0
  have s1 : W1.cell? ⟨W0.heap.size, 1, none⟩ = some (.int .u8 own) := exCell HSB.out 1
  cases bl with
  | true =>
    have e : R = 0 := by
      rw [HRR.out]
      exact srt_ne HSH.out (list_len_ne (by
        rw [List.length_map, HL.out, ← HM.out]
        intro h; have := HQL.out.2 h; cases this))
    have E := Lib.hid e
    clear e
    go_wp2_with fail
    go_ret
    exact ⟨by rw [E.out]; rfl, HB1.out⟩
  | false =>
  cases br with
  | false =>
    have e : R = 0 := by rw [HRR.out]; exact srt_bare HSH.out (by rw [HQB.out]; rfl)
    have E := Lib.hid e
    clear e
    go_wp2_with fail
    go_ret
    exact ⟨by rw [E.out]; rfl, HB1.out⟩
  | true =>
  cases bn with
  | false =>
    have e : R = 0 := by rw [HRR.out]; exact srt_bare HSH.out (by rw [HQB.out]; rfl)
    have E := Lib.hid e
    clear e
    go_wp2_with fail
    go_ret
    exact ⟨by rw [E.out]; rfl, HB1.out⟩
  | true =>
  cases bd with
  | true =>
    have e : R = 0 := by rw [HRR.out]; exact srt_bare HSH.out (by rw [HQB.out]; rfl)
    have E := Lib.hid e
    clear e
    go_wp2_with fail
    go_ret
    exact ⟨by rw [E.out]; rfl, HB1.out⟩
  | false =>
  have hlm : len = m := HQL.out.1 rfl
  have HBA : Hid (bareB r nm d = true) := by show _ = true; rw [HQB.out]; rfl
  have HLM := Lib.hid hlm
  clear hlm
  go_wp2_with fail
  go_loopw [5, 6, 43] (fun _ _ iv wr => PsR W1 l ps len iv wr) (fun _ _ iv _ => len - (intOf iv).toNat)
  case atStart => exact ⟨0, Nat.zero_le _, rfl, Lib.hid (fun i h => absurd h (Nat.not_lt_zero _)), Below.refl _ _⟩
  case round =>
    obtain ⟨w1, rfl⟩ : ∃ w1 : World, w1 = wr := ⟨_, rfl⟩
    obtain ⟨k, hk, rfl, HK, hb⟩ := hrel
    have HB := Lib.hid hb
    have HBW := Lib.hid (HB1.out.trans (hb.mono HB1.out.size))
    have hs0 : w1.cell? ⟨W0.heap.size, 0, none⟩ = some (.slice (some ⟨gs, os, none⟩) m cs) := ((bcell hb).1 _ _ hz1).trans s0
    have hs1 : w1.cell? ⟨W0.heap.size, 1, none⟩ = some (.int .u8 own) := ((bcell hb).1 _ _ hz1).trans s1
    clear hb c0 c1 c2 c3 c4 s0 s1
    by_cases hlt : k < len
    · have hlt2 : k < l.length := by rw [HL.out]; exact hlt
      rcases HAT.out with h0 | ⟨g, o, ha, hg, hel⟩
      · omega
      · subst ha
        obtain ⟨p1, l1, cc, ⟨e0, e1, e2, e3, e4⟩, hx1⟩ := ExAt.elem (x := Ex.mk 0 ByteArray.empty ByteArray.empty 0 l) hg HBW.out hlt2 hel
        have hym : l[k] ∈ l := List.getElem_mem _
        simp only [Ex.sub] at e0 e1 e2 e3 hx1
        have hsk : (l.map Ex.srt)[k]?.getD 0 = l[k].srt := by rw [List.getElem?_map, List.getElem?_eq_getElem hlt2]; rfl
        obtain ⟨y, hy⟩ : ∃ y, y = l[k] := ⟨_, rfl⟩
        rw [← hy] at e0 e1 e2 e3 hx1 hym hsk
        obtain ⟨V, hV⟩ : ∃ V, V = w1.alloc (.cells #[.int .u8 y.kind, .string y.rat, .string y.name, .int .i64 y.date, .slice p1 l1 cc] 25) := ⟨_, rfl⟩
        have hbv : V.heap[w1.heap.size]? = some (.cells #[.int .u8 y.kind, .string y.rat, .string y.name, .int .i64 y.date, .slice p1 l1 cc] 25) := by rw [hV]; exact heap_alloc_new w1 _
        have hBV : Below w1.heap.size w1 V := by rw [hV]; exact own_below w1 _
        have hz0 : W0.heap.size < w1.heap.size := Nat.lt_of_lt_of_le hz1 HB.out.size
        have hgv : Below Wg.heap.size Wg V := HG1.out.trans ((HB.out.trans (hBV.mono HB.out.size)).mono HG1.out.size)
        obtain ⟨p, hp⟩ : ∃ p, p = ps[k]?.getD 0 := ⟨_, rfl⟩
        have hkm : k < m := by rw [← HLM.out]; exact hlt
        have SBf : ∀ W, Below V.heap.size V W → W.cell? ⟨w1.heap.size, 0, none⟩ = some (.int .u8 y.kind) ∧ W.cell? ⟨w1.heap.size, 1, none⟩ = some (.string y.rat) ∧ W.cell? ⟨w1.heap.size, 2, none⟩ = some (.string y.name) ∧ W.cell? ⟨w1.heap.size, 3, none⟩ = some (.int .i64 y.date) ∧ W.cell? ⟨w1.heap.size, 4, none⟩ = some (.slice p1 l1 cc) ∧
            W.cell? ⟨W0.heap.size, 0, none⟩ = some (.slice (some ⟨gs, os, none⟩) m cs) ∧ W.cell? ⟨gs, os + k, none⟩ = some (.int .u8 p) := fun W hW => by
          obtain ⟨q0, q1, q2, q3, q4⟩ := exCells ((hW.block _ (Array.getElem?_eq_some_iff.1 hbv).1).trans hbv)
          have hVW : Below w1.heap.size w1 W := hBV.trans (hW.mono hBV.size)
          exact ⟨q0, q1, q2, q3, q4, ((bcell hVW).1 _ _ hz0).trans hs0, by rw [hp]; exact HPC.out W (hgv.trans (hW.mono hgv.size)) k hkm⟩
        have hcall : ∀ W, Below V.heap.size V W → Calls Tryd.prog 39 #[.agg #[.int .u8 y.kind, .string y.rat, .string y.name, .int .i64 y.date, .slice p1 l1 cc]] W (U8P W y.srt) := fun W hW => by
          have hVW : Below w1.heap.size w1 W := hBV.trans (hW.mono hBV.size)
          have := HI.out y _ W (ExAt.below hVW hx1) (HKO.out y hym) (HZY.out y hym) (HSE.out y hym) (hgv.trans (hW.mono hgv.size))
          rwa [← Ex.srt_is] at this
        obtain ⟨s, hs⟩ : ∃ s, s = y.srt := ⟨_, rfl⟩
        rw [← hs] at hcall hsk
        have HSF := Lib.hid SBf
        have HCL := Lib.hid hcall
        have HSK := Lib.hid hsk
        have HP := Lib.hid hp
        have HV := Lib.hid hV
        have HBV := Lib.hid hBV
        have HC0 : Hid (Below V.heap.size V V) := Below.refl _ V
        have HC : Hid (Below V.heap.size V V.drew) := (Below.refl _ V).drew
        have hi0 : (0 : Int) ≤ (k : Int) := by omega
        have hi1 : (k : Int) < (m : Int) := by omega
        by_cases hsp : s = p
        · have qsp : ((s : Int) != (p : Int)) = false := ine_false hsp
          have HSP := Lib.hid hsp
          clear hel hx1 hym hy hbv hBV hgv SBf hcall hsk hs hp hV hsp hs0 hs1
          go_upto_region 9 with (fail)
          rw [← HV.out]
          clear HV e0 e1 e2 e3 e4
          obtain ⟨q0, q1, q2, q3, q4, q5, q6⟩ := HSF.out V HC0.out
          go_region_held3 (fun W => W.cell? ⟨w1.heap.size, 0, none⟩ = some (.int .u8 y.kind) ∧ W.cell? ⟨w1.heap.size, 1, none⟩ = some (.string y.rat) ∧ W.cell? ⟨w1.heap.size, 2, none⟩ = some (.string y.name) ∧ W.cell? ⟨w1.heap.size, 3, none⟩ = some (.int .i64 y.date) ∧ W.cell? ⟨w1.heap.size, 4, none⟩ = some (.slice p1 l1 cc) ∧
            W.cell? ⟨W0.heap.size, 0, none⟩ = some (.slice (some ⟨gs, os, none⟩) m cs) ∧ W.cell? ⟨gs, os + k, none⟩ = some (.int .u8 p))
            ((first | with_reducible exact HSF.out _ HC.out | with_reducible exact HSF.out _ HC0.out))
            ((go_at_call 39; refine (HCL.out _ HC.out).mono ?_; rintro e u ⟨rfl, hb⟩; have HC := Lib.hid (HC.out.trans (hb.mono HC.out.size)); clear hb))
          have HNX := Lib.hid ((HB.out.trans (HBV.out.mono HB.out.size)).trans (HC.out.mono (Nat.le_trans HB.out.size HBV.out.size)))
          clear q0 q1 q2 q3 q4 q5 q6
          go_wp2_with fail
          go_roundw
          case rel => exact ⟨k + 1, by omega, by go_num, Lib.hid (fun i hi => by
            rcases Nat.lt_or_ge i k with h | h
            · exact HK.out i h
            · obtain rfl : i = k := by omega
              rw [HSK.out, ← HP.out]; exact HSP.out), HNX.out⟩
          case measure => simp [intOf] <;> omega
        · have qsp : ((s : Int) != (p : Int)) = true := ine_true hsp
          have e : R = 0 := by
            rw [HRR.out]
            exact srt_ne HSH.out (list_at_ne (i := k) (by rw [HSK.out, ← HP.out]; exact hsp))
          have E := Lib.hid e
          clear hel hx1 hym hy hbv hBV hgv SBf hcall hsk hs hp hV hsp hs0 hs1 e
          go_upto_region 9 with (fail)
          rw [← HV.out]
          clear HV e0 e1 e2 e3 e4
          obtain ⟨q0, q1, q2, q3, q4, q5, q6⟩ := HSF.out V HC0.out
          go_region_held3 (fun W => W.cell? ⟨w1.heap.size, 0, none⟩ = some (.int .u8 y.kind) ∧ W.cell? ⟨w1.heap.size, 1, none⟩ = some (.string y.rat) ∧ W.cell? ⟨w1.heap.size, 2, none⟩ = some (.string y.name) ∧ W.cell? ⟨w1.heap.size, 3, none⟩ = some (.int .i64 y.date) ∧ W.cell? ⟨w1.heap.size, 4, none⟩ = some (.slice p1 l1 cc) ∧
            W.cell? ⟨W0.heap.size, 0, none⟩ = some (.slice (some ⟨gs, os, none⟩) m cs) ∧ W.cell? ⟨gs, os + k, none⟩ = some (.int .u8 p))
            ((first | with_reducible exact HSF.out _ HC.out | with_reducible exact HSF.out _ HC0.out))
            ((go_at_call 39; refine (HCL.out _ HC.out).mono ?_; rintro e u ⟨rfl, hb⟩; have HC := Lib.hid (HC.out.trans (hb.mono HC.out.size)); clear hb))
          have HNX := Lib.hid (HB1.out.trans (((HB.out.trans (HBV.out.mono HB.out.size)).trans (HC.out.mono (Nat.le_trans HB.out.size HBV.out.size))).mono HB1.out.size))
          clear q0 q1 q2 q3 q4 q5 q6
          go_wp2_with fail
          go_ret
          exact ⟨by rw [E.out]; rfl, HNX.out⟩
    · have e : R = own := by
        rw [HRR.out]
        refine srt_yes HSH.out HBA.out (list_ext_getD (by rw [List.length_map, HL.out, HLM.out, HM.out]) (fun i hi => HK.out i ?_))
        rw [List.length_map, HL.out] at hi; omega
      have E := Lib.hid e
      clear e
      go_wp2_with fail
      go_ret
      exact ⟨by rw [E.out]; rfl, HBW.out⟩

theorem psort_any {Wg : World} (hg : ShpAt Wg) : ∀ n, PsC n Wg := by
  intro n
  induction n with
  | zero => intro x cs w h; exact h.elim
  | succ n ih =>
    intro x cs w h hk hz hsm hb
    obtain ⟨hkr, hko⟩ := hk
    obtain ⟨k, r, nm, d, l⟩ := x
    have hsl := (Ex.mk k r nm d l).sub_len
    obtain ⟨a, len, cap, rfl, hlen, hat⟩ := h
    obtain ⟨hrz, hse⟩ := sm_parts hsm
    cases hs : shpL k with
    | none => exact psort_leaf k r nm d a len cap l w Wg hkr.1 hkr.2 hs hrz.1 hlen hg hb
    | some q =>
      obtain ⟨ps, own⟩ := q
      exact psort_parts ih k r nm d a len cap l ps own w hkr.1 hkr.2 hs hlen (by omega) hg hb hko (fun y hy => by have := Ex.sub_size (x := Ex.mk k r nm d l) hy; omega) hse hat

end Go.Proofs.YtijkefflpojmhaaDoor

namespace Go.Proofs.YtijkefflpojmhaaDoor
open Go.RowKit

/-- What Check answers. -/
def chkX (x : Ex) : Int := if 500 < x.size ∨ 60 < x.depth then 4 else if x.srt = 0 then 8 else 0
/-- What stands in memory where an expression is looked at. -/
structure ExIn (n : Nat) (x : Ex) (cs : List Value) (w Wg : World) : Prop where
  at_ : ExAt n w cs x
  kok : KOk n x
  size : x.size ≤ 1000
  small : SmX 90 x
  shp : ShpAt Wg
  old : Below Wg.heap.size Wg w
theorem ExIn.below {n : Nat} {x : Ex} {cs : List Value} {w w' Wg : World} (h : ExIn n x cs w Wg) (hb : Below w.heap.size w w') : ExIn n x cs w' Wg :=
  ⟨ExAt.below hb h.at_, h.kok, h.size, h.small, h.shp, h.old.trans (hb.mono h.old.size)⟩

set_option maxHeartbeats 2000000 in
set_option maxRecDepth 100000 in
theorem pchkx_any (n : Nat) (x : Ex) (cs : List Value) (w Wg : World) (h : ExIn n x cs w Wg) : Calls Tryd.prog 22 #[.agg cs.toArray] w (IntP w (chkX x)) := by
  have hsh := h.at_.shape
  obtain ⟨a, len, cap, rfl, _⟩ := hsh
  obtain ⟨W0, hW0⟩ : ∃ W0, W0 = w.alloc (.cells #[.int .u8 x.kind, .string x.rat, .string x.name, .int .i64 x.date, .slice a len cap] 25) := ⟨_, rfl⟩
  have hB0 : Below w.heap.size w W0 := by rw [hW0]; exact own_below w _
  have hbx : W0.heap[w.heap.size]? = some (.cells #[.int .u8 x.kind, .string x.rat, .string x.name, .int .i64 x.date, .slice a len cap] 25) := by rw [hW0]; exact heap_alloc_new w _
  have h0 := h.below hB0
  have hdp := SmX.depth h.small
  have HC : ∀ W, Below W0.heap.size W0 W → _ := fun W hW => exCells ((hW.block _ (Array.getElem?_eq_some_iff.1 hbx).1).trans hbx)
  have HSZ : Hid (∀ W, Below W0.heap.size W0 W → Calls Tryd.prog 37 #[.agg #[.int .u8 x.kind, .string x.rat, .string x.name, .int .i64 x.date, .slice a len cap]] W (IntP W (x.size : Int))) := fun W hW => psizex_any n x _ W (ExAt.below hW h0.at_) h.size
  obtain ⟨M, hM⟩ : ∃ M, M = min x.depth 61 := ⟨_, rfl⟩
  have HDP : Hid (∀ W, Below W0.heap.size W0 W → Calls Tryd.prog 38 #[.agg #[.int .u8 x.kind, .string x.rat, .string x.name, .int .i64 x.date, .slice a len cap], .int .i64 60] W (IntP W (M : Int))) := fun W hW => by
    have q := pdepth_any n x _ 60 W (ExAt.below hW h0.at_) h.size (by omega) (by omega)
    rw [hM]; exact q
  have HST : Hid (∀ W, Below W0.heap.size W0 W → Calls Tryd.prog 39 #[.agg #[.int .u8 x.kind, .string x.rat, .string x.name, .int .i64 x.date, .slice a len cap]] W (U8P W x.srt)) := fun W hW => by
    have := psort_any h.shp n x _ W (ExAt.below hW h0.at_) h.kok h.size ⟨_, h.small⟩ (h0.old.trans (hW.mono h0.old.size))
    rwa [← Ex.srt_is] at this
  obtain ⟨R, hR⟩ : ∃ R, R = chkX x := ⟨_, rfl⟩
  rw [← hR]
  have HRR := Lib.hid hR
  have HW0 := Lib.hid hW0
  have HB0 := Lib.hid hB0
  have HCC := Lib.hid HC
  obtain ⟨c0, c1, c2, c3, c4⟩ := HC W0 (Below.refl _ _)
  obtain ⟨sz, hsz⟩ : ∃ q, q = x.size := ⟨_, rfl⟩
  obtain ⟨dp, hdpe⟩ : ∃ q, q = x.depth := ⟨_, rfl⟩
  obtain ⟨st, hst⟩ : ∃ q, q = x.srt := ⟨_, rfl⟩
  have hcx : R = if 500 < sz ∨ 60 < dp then 4 else if st = 0 then 8 else 0 := by rw [hR, hsz, hdpe, hst]; rfl
  have hszb : sz ≤ 1000 := by rw [hsz]; exact h.size
  rw [← hsz] at HSZ
  rw [← hdpe] at hdp hM
  have HM := Lib.hid hM
  have hM61 : M ≤ 61 := by omega
  rw [← hst] at HST
  have HCX := Lib.hid hcx
  clear hM hR hW0 hB0 HC h0 h hbx hsz hdpe hst hcx
  by_cases h5 : 500 < sz
  · have e : R = 4 := by rw [HCX.out, if_pos (.inl h5)]
    have E := Lib.hid e
    clear e
    go_enter Tryd.func22, Tryd.ntmps22
    go_wp2_with fail
    rw [← HW0.out]
    refine (HSZ.out _ (Below.refl _ _)).mono ?_
    rintro e w1 ⟨rfl, hb⟩
    have HB := Lib.hid (HB0.out.trans (hb.mono HB0.out.size))
    clear hb c0 c1 c2 c3 c4
    have d5 : decide ((500 : Int) < (sz : Int)) = true := by simp; omega
    go_wp2_with fail
    go_ret
    exact ⟨by rw [E.out]; rfl, HB.out⟩
  · by_cases h6 : 60 < dp
    · have e : R = 4 := by rw [HCX.out, if_pos (.inr h6)]
      have E := Lib.hid e
      clear e
      go_enter Tryd.func22, Tryd.ntmps22
      go_wp2_with fail
      rw [← HW0.out]
      refine (HSZ.out _ (Below.refl _ _)).mono ?_
      rintro e w1 ⟨rfl, hb⟩
      have HB1 := Lib.hid hb
      clear hb c0 c1 c2 c3 c4
      obtain ⟨c0, c1, c2, c3, c4⟩ := HCC.out w1 HB1.out
      have d5 : decide ((500 : Int) < (sz : Int)) = false := by simp; omega
      go_wp2_with fail
      refine (HDP.out _ HB1.out).mono ?_
      rintro e w2 ⟨rfl, hb⟩
      have HB := Lib.hid (HB0.out.trans ((HB1.out.trans (hb.mono HB1.out.size)).mono HB0.out.size))
      clear hb c0 c1 c2 c3 c4
      have d6 : decide ((60 : Int) < (M : Int)) = true := by have := HM.out; simp; omega
      go_wp2_with fail
      go_ret
      exact ⟨by rw [E.out]; rfl, HB.out⟩
    · have e : R = if st = 0 then 8 else 0 := by rw [HCX.out, if_neg (by omega)]
      have E := Lib.hid e
      clear e
      go_enter Tryd.func22, Tryd.ntmps22
      go_wp2_with fail
      rw [← HW0.out]
      refine (HSZ.out _ (Below.refl _ _)).mono ?_
      rintro e w1 ⟨rfl, hb⟩
      have HB1 := Lib.hid hb
      clear hb c0 c1 c2 c3 c4
      obtain ⟨c0, c1, c2, c3, c4⟩ := HCC.out w1 HB1.out
      have d5 : decide ((500 : Int) < (sz : Int)) = false := by simp; omega
      go_wp2_with fail
      refine (HDP.out _ HB1.out).mono ?_
      rintro e w2 ⟨rfl, hb⟩
      have HB2 := Lib.hid (HB1.out.trans (hb.mono HB1.out.size))
      clear hb c0 c1 c2 c3 c4
      obtain ⟨c0, c1, c2, c3, c4⟩ := HCC.out w2 HB2.out
      have d6 : decide ((60 : Int) < (M : Int)) = false := by have := HM.out; simp; omega
      go_wp2_with fail
      refine (HST.out _ HB2.out).mono ?_
      rintro e w3 ⟨rfl, hb⟩
      have HB := Lib.hid (HB0.out.trans ((HB2.out.trans (hb.mono HB2.out.size)).mono HB0.out.size))
      clear hb c0 c1 c2 c3 c4
      by_cases h0 : st = 0
      · have q : ((st : Int) == 0) = true := ieq_true h0
        have e : R = 8 := by rw [E.out, if_pos h0]
        have E2 := Lib.hid e
        clear e h0
        go_wp2_with fail
        go_ret
        exact ⟨by rw [E2.out]; rfl, HB.out⟩
      · have q : ((st : Int) == 0) = false := ieq_false h0
        have e : R = 0 := by rw [E.out, if_neg h0]
        have E2 := Lib.hid e
        clear e h0
        go_wp2_with fail
        go_ret
        exact ⟨by rw [E2.out]; rfl, HB.out⟩

end Go.Proofs.YtijkefflpojmhaaDoor

namespace Go.Proofs.YtijkefflpojmhaaDoor
open Go.RowKit

/-- The keywords. -/
def kwL : List (List UInt8) := [[110, 111, 116, 104, 105, 110, 103], [112, 97, 121, 115], [116, 111], [98, 111, 116, 104], [115, 99, 97, 108, 101], [105, 102], [101, 108, 115, 101], [111, 110], [99, 104, 111, 105, 99, 101], [98, 121], [99, 97, 108, 108], [117, 110, 116, 105, 108], [119, 104, 101, 110], [109, 97, 120], [109, 105, 110], [110, 111, 119], [99, 97, 115, 101], [108, 101, 115, 115], [101, 113, 117, 97, 108], [97, 110, 100], [111, 114], [110, 111, 116]]
def kwB (l : List UInt8) : Bool := decide (l ∈ kwL)
def kwS (k : Nat) : ByteArray := ⟨(kwL[k]?.getD []).toArray⟩
def kwO : Array Value := ((List.range 22).map fun k => Value.string (kwS k)).toArray
theorem kwS_cell (w : World) (k : Nat) (hk : k < 22) : (w.alloc (.cells kwO 9)).cell? ⟨w.heap.size, k, none⟩ = some (.string (kwS k)) := by
  have h : (w.alloc (.cells kwO 9)).heap[w.heap.size]? = some (.cells kwO 9) := by show (w.heap.push _)[w.heap.size]? = _; simp
  rw [exCell h k]
  unfold kwO
  simp [hk]
theorem kw_at {s : ByteArray} {k : Nat} (hk : k < 22) (h : kwS k = s) : kwB s.data.toList = true := by
  subst h
  have : kwL[k]?.getD [] ∈ kwL := by
    rw [List.getElem?_eq_getElem (show k < kwL.length from hk)]
    exact List.getElem_mem _
  exact decide_eq_true this
theorem kw_no {s : ByteArray} (h : ∀ k, k < 22 → kwS k ≠ s) : kwB s.data.toList = false := by
  refine decide_eq_false fun hm => ?_
  obtain ⟨k, hk, e⟩ := List.getElem_of_mem hm
  refine h k hk (Go.WideShapes.bytes_inj ?_)
  show kwL[k]?.getD [] = _
  rw [List.getElem?_eq_getElem hk]
  exact e

end Go.Proofs.YtijkefflpojmhaaDoor

namespace Go.Proofs.YtijkefflpojmhaaDoor
open Go.RowKit

/-- A keyword is short. -/
theorem kw_short {s : ByteArray} (h : kwB s.data.toList = true) : s.size ≤ 40 := by
  have h1 : s.data.toList ∈ kwL := of_decide_eq_true h
  have h2 : ∀ l ∈ kwL, l.length ≤ 40 := by decide
  have := h2 _ h1
  simpa using this

end Go.Proofs.YtijkefflpojmhaaDoor

namespace Go.Proofs.YtijkefflpojmhaaDoor
open Go.RowKit

/-- A name as a text bears it. -/
def qn (s : ByteArray) : ByteArray := if kwB s.data.toList = true then ByteArray.mk #[34] ++ s ++ ByteArray.mk #[34] else s

/-- The keywords in the program's order. -/
def kqL : List (List UInt8) := [[97, 110, 100], [98, 111, 116, 104], [98, 121], [99, 97, 108, 108], [99, 97, 115, 101], [99, 104, 111, 105, 99, 101], [101, 108, 115, 101], [101, 113, 117, 97, 108], [105, 102], [108, 101, 115, 115], [109, 97, 120], [109, 105, 110], [110, 111, 116], [110, 111, 116, 104, 105, 110, 103], [110, 111, 119], [111, 110], [111, 114], [112, 97, 121, 115], [115, 99, 97, 108, 101], [116, 111], [117, 110, 116, 105, 108], [119, 104, 101, 110]]
def kqS (k : Nat) : ByteArray := ⟨(kqL[k]?.getD []).toArray⟩
def kqO : Array Value := ((List.range 22).map fun k => Value.string (kqS k)).toArray
set_option maxRecDepth 100000 in
theorem pwords_any (w : World) : Calls Tryd.prog 58 #[] w fun e w' => e = .returned (.slice (some ⟨w.heap.size, 0, none⟩) 22 22) ∧ w' = w.alloc (.cells kqO 9) := by
  go_enter Tryd.func58, Tryd.ntmps58
  go_wp2_with fail
  go_ret
  exact ⟨rfl, rfl⟩
theorem kqS_cell (w : World) (k : Nat) (hk : k < 22) : (w.alloc (.cells kqO 9)).cell? ⟨w.heap.size, k, none⟩ = some (.string (kqS k)) := by
  have h : (w.alloc (.cells kqO 9)).heap[w.heap.size]? = some (.cells kqO 9) := by show (w.heap.push _)[w.heap.size]? = _; simp
  rw [exCell h k]
  unfold kqO
  simp [hk]
/-- The two lists hold the same words. -/
theorem kq_kw (l : List UInt8) : kwB l = decide (l ∈ kqL) := by
  have h1 : ∀ x ∈ kwL, x ∈ kqL := by decide
  have h2 : ∀ x ∈ kqL, x ∈ kwL := by decide
  unfold kwB
  exact decide_eq_decide.2 ⟨h1 l, h2 l⟩

end Go.Proofs.YtijkefflpojmhaaDoor

namespace Go.Proofs.YtijkefflpojmhaaDoor
open Go.RowKit

theorem kq_less : ∀ t, t < 22 → ∀ j, j < 22 → Op.bytesLess (kqL[t]?.getD []) (kqL[j]?.getD []) = decide (t < j) := by decide +kernel

/-- The halving of a row of which a head is less, within the row. -/
theorem halve {less : Nat → Bool} {n k : Nat} (h1 : ∀ t, t < k → less t = true) (h2 : ∀ t, k ≤ t → t < n → less t = false) : ∀ f lo hi : Nat, hi - lo ≤ f → lo ≤ k → k ≤ hi → hi ≤ n → Lib.bsGo less f lo hi = k := by
  intro f
  induction f with
  | zero => intro lo hi a b c d; show lo = k; omega
  | succ f ih =>
    intro lo hi a b c d
    rw [Lib.bsGo]
    split
    · cases hm : less ((lo + hi) / 2) with
      | true =>
        have : (lo + hi) / 2 < k := Nat.lt_of_not_le fun h => by
          rw [h2 _ h (by omega)] at hm; exact Bool.noConfusion hm
        rw [if_pos rfl]
        exact ih _ _ (by omega) (by omega) c d
      | false =>
        have : k ≤ (lo + hi) / 2 := Nat.le_of_not_lt fun h => by
          rw [h1 _ h] at hm; exact Bool.noConfusion hm
        rw [if_neg Bool.false_ne_true]
        exact ih _ _ (by omega) b this (by omega)
    · omega

theorem kq_found (s : ByteArray) : decide (Lib.bsGo (fun t => Op.bytesLess (kqS t).toList s.toList) 22 0 22 < 22 ∧ kqS (Lib.bsGo (fun t => Op.bytesLess (kqS t).toList s.toList) 22 0 22) = s) = kwB s.data.toList := by
  rw [kq_kw]
  refine decide_eq_decide.2 ⟨fun h => ?_, fun h => ?_⟩
  · obtain ⟨h1, h2⟩ := h
    revert h1 h2
    generalize Lib.bsGo (fun t => Op.bytesLess (kqS t).toList s.toList) 22 0 22 = I
    intro h1 h2
    rw [← h2]
    show kqL[I]?.getD [] ∈ kqL
    rw [List.getElem?_eq_getElem (show I < kqL.length from h1)]
    exact List.getElem_mem _
  · obtain ⟨j, hj, e⟩ := List.getElem_of_mem h
    have hj' : j < 22 := hj
    have hs : kqS j = s := by
      apply Go.WideShapes.bytes_inj
      show kqL[j]?.getD [] = _
      rw [List.getElem?_eq_getElem hj]
      exact e
    have hl : ∀ t, t < 22 → Op.bytesLess (kqS t).toList s.toList = decide (t < j) := fun t ht => by
      rw [← hs, ByteArray.toList_eq, ByteArray.toList_eq]
      exact kq_less t ht j hj'
    have hk : Lib.bsGo (fun t => Op.bytesLess (kqS t).toList s.toList) 22 0 22 = j :=
      halve (n := 22) (fun t ht => (hl t (by omega)).trans (decide_eq_true ht)) (fun t a b => (hl t b).trans (decide_eq_false (by omega))) 22 0 22 (by omega) (by omega) (by omega) (by omega)
    rw [hk]
    exact ⟨hj', hs⟩

end Go.Proofs.YtijkefflpojmhaaDoor

namespace Go.Proofs
open Go.Shelf
def Tryd.laysQ26_ren : Go.Shelf.Ren := ⟨fun | 26 => 57 | 33 => 65 | 34 => 66 | 38 => 77 | n => n, fun | 0 => 0 | 3 => 3 | 4 => 4 | 9 => 9 | 24 => 85 | 40 => 105 | n => n, fun | n => n⟩
theorem Tryd.laysQ26 : Go.Proofs.Lays2.n26 Tryd.prog Tryd.laysQ26_ren := {
  mixed := by kernel_rfl
  f26 := Tryd.func57.trans (congrArg some (by kernel_rfl))
  f33 := Tryd.func65.trans (congrArg some (by kernel_rfl))
  f34 := Tryd.func66.trans (congrArg some (by kernel_rfl))
  f38 := Tryd.func77.trans (congrArg some (by kernel_rfl))
  t0 := Tryd.underlying0
  a0 := Tryd.isAgg0
  z0 := Tryd.sizeOf0
  v0 := Tryd.zeroValue0
  t3 := Tryd.underlying3
  a3 := Tryd.isAgg3
  z3 := Tryd.sizeOf3
  v3 := Tryd.zeroValue3
  t4 := Tryd.underlying4
  a4 := Tryd.isAgg4
  z4 := Tryd.sizeOf4
  v4 := Tryd.zeroValue4
  t9 := Tryd.underlying9
  a9 := Tryd.isAgg9
  z9 := Tryd.sizeOf9
  v9 := Tryd.zeroValue9
  t24 := Tryd.underlying85
  a24 := Tryd.isAgg85
  z24 := Tryd.sizeOf85
  v24 := Tryd.zeroValue85
  t40 := Tryd.underlying105
  a40 := Tryd.isAgg105
  z40 := Tryd.sizeOf105
  v40 := Tryd.zeroValue105 }

end Go.Proofs
namespace Go.Proofs.YtijkefflpojmhaaDoor
open Go.RowKit


set_option maxHeartbeats 1000000 in
theorem pkeyword_any (s : ByteArray) (w : World) : Calls Tryd.prog 42 #[.string s] w (BelB w (kwB s.data.toList)) := by
  have HW := Lib.hid (fun W => pwords_any W)
  have HB := Lib.hid (own_below w (.cells kqO 9))
  have HS : Hid (Calls Tryd.prog 57 #[.slice (some ⟨w.heap.size, 0, none⟩) 22 22, .string s] (w.alloc (.cells kqO 9)) fun e w' => ∃ I : Int, e = .returned (.tuple #[.int .i64 I, .bool (kwB s.data.toList)]) ∧ ∃ q, w' = (w.alloc (.cells kqO 9)).drewN q) := by
    refine Lib.hid (Calls.mono (Any2.slices_BinarySearch_string Tryd.laysQ26 w.heap.size 0 22 22 kqS s _ (by decide) (fun j hj => by rw [Nat.zero_add]; exact kqS_cell w j hj)) ?_)
    rintro e w' ⟨h1, h2⟩
    exact ⟨_, by rw [h1, kq_found], h2⟩
  obtain ⟨b, hb⟩ : ∃ b, b = kwB s.data.toList := ⟨_, rfl⟩
  rw [← hb] at HS ⊢
  clear hb
  go_enter Tryd.func42, Tryd.ntmps42
  go_wp2_with fail
  refine (HW.out _).mono ?_
  rintro e w' ⟨rfl, rfl⟩
  obtain ⟨W1, hW1⟩ : ∃ W1, W1 = w.alloc (.cells kqO 9) := ⟨_, rfl⟩
  rw [← hW1] at HS HB ⊢
  clear hW1
  go_wp2_with fail
  refine HS.out.mono ?_
  rintro e w' ⟨I, rfl, q, rfl⟩
  have HD := Lib.hid (below_drewN HB.out q)
  go_wp2_with fail
  go_ret
  exact ⟨rfl, HD.out⟩

end Go.Proofs.YtijkefflpojmhaaDoor

namespace Go.Proofs.YtijkefflpojmhaaDoor
open Go.RowKit

set_option maxHeartbeats 1000000 in
theorem pqname_kw (s : ByteArray) (w : World) (hk : kwB s.data.toList = true) : Calls Tryd.prog 25 #[.string s] w (fun e w' => e = .returned (.string (ByteArray.mk #[34] ++ s ++ ByteArray.mk #[34])) ∧ Below w.heap.size w w') := by
  have HK := Lib.hid (pkeyword_any s)
  have hz := kw_short hk
  rw [hk] at HK
  clear hk
  go_enter Tryd.func25, Tryd.ntmps25
  go_wp2_with fail
  refine (HK.out _).mono ?_
  rintro e w' ⟨rfl, hb⟩
  have HBL := Lib.hid hb
  clear hb
  go_wp2_with fail
  go_ret
  exact ⟨rfl, HBL.out⟩

set_option maxHeartbeats 1000000 in
theorem pqname_no (s : ByteArray) (w : World) (hk : kwB s.data.toList = false) : Calls Tryd.prog 25 #[.string s] w (fun e w' => e = .returned (.string s) ∧ Below w.heap.size w w') := by
  have HK := Lib.hid (pkeyword_any s)
  rw [hk] at HK
  clear hk
  go_enter Tryd.func25, Tryd.ntmps25
  go_wp2_with fail
  refine (HK.out _).mono ?_
  rintro e w' ⟨rfl, hb⟩
  have HBL := Lib.hid hb
  clear hb
  go_wp2_with fail
  go_ret
  exact ⟨rfl, HBL.out⟩

theorem pqname_any (s : ByteArray) (w : World) : Calls Tryd.prog 25 #[.string s] w (fun e w' => e = .returned (.string (qn s)) ∧ Below w.heap.size w w') := by
  unfold qn
  by_cases h : kwB s.data.toList = true
  · rw [if_pos h]; exact pqname_kw s w h
  · rw [if_neg h]; exact pqname_no s w (by simpa using h)

set_option maxHeartbeats 1000000 in
theorem pquote_any (s : ByteArray) (w : World) : Calls Tryd.prog 15 #[.string s] w (fun e w' => e = .returned (if nmB s.data.toList = true then .tuple #[.string (qn s), .int .i64 0] else .tuple #[.string ByteArray.empty, .int .i64 8]) ∧ Below w.heap.size w w') := by
  have HN := Lib.hid (name_any s)
  have HQ := Lib.hid (pqname_any s)
  have HR := Lib.hid (Below.refl w.heap.size w)
  obtain ⟨q, hq⟩ : ∃ q, q = qn s := ⟨_, rfl⟩
  rw [← hq] at HQ ⊢
  clear hq
  cases hb : nmB s.data.toList with
  | true =>
    rw [hb] at HN
    clear hb
    go_enter Tryd.func15, Tryd.ntmps15
    go_wp2_with fail
    refine (HN.out _).mono ?_
    rintro e w' ⟨rfl, rfl⟩
    go_wp2_with fail
    refine (HQ.out _).mono ?_
    rintro e w' ⟨rfl, hB⟩
    have HBL := Lib.hid hB
    clear hB
    go_wp2_with fail
    go_ret2
    exact ⟨rfl, HBL.out⟩
  | false =>
    rw [hb] at HN
    clear hb
    go_enter Tryd.func15, Tryd.ntmps15
    go_wp2_with fail
    refine (HN.out _).mono ?_
    rintro e w' ⟨rfl, rfl⟩
    go_wp2_with fail
    go_ret2
    exact ⟨rfl, HR.out⟩

end Go.Proofs.YtijkefflpojmhaaDoor

namespace Go.Proofs.YtijkefflpojmhaaDoor
open Go.RowKit

set_option maxHeartbeats 1000000 in
set_option maxRecDepth 100000 in
theorem leap_any (y : Nat) (w : World) (hy : y ≤ 10000) : Calls Tryd.prog 79 #[.int .i64 (y : Int)] w (RetB w (leapB y)) := by
  have hb : leapB y = (((y : Int) % 4 == 0) && (((y : Int) % 100 != 0) || ((y : Int) % 400 == 0))) := by
    unfold leapB
    rw [Bool.eq_iff_iff]
    simp
    omega
  rw [hb]
  obtain ⟨b1, h1⟩ : ∃ b, ((y : Int) % 4 == 0) = b := ⟨_, rfl⟩
  obtain ⟨b2, h2⟩ : ∃ b, ((y : Int) % 100 != 0) = b := ⟨_, rfl⟩
  obtain ⟨b3, h3⟩ : ∃ b, ((y : Int) % 400 == 0) = b := ⟨_, rfl⟩
  rw [h1, h2, h3]
  clear hb
  cases b1 <;> cases b2 <;> cases b3
  all_goals
    go_enter Tryd.func79, Tryd.ntmps79
    go_wp2
    go_ret
    exact ⟨rfl, rfl⟩

theorem longN_2 (y : Nat) : longN y 2 = if leapB y = true then 29 else 28 := rfl
set_option maxHeartbeats 1000000 in
set_option maxRecDepth 100000 in
theorem leaps_any (y : Nat) (w : World) (hy : y ≤ 10000) : Calls Tryd.prog 78 #[.int .i64 (y : Int)] w (RetI w (leapsN y : Int)) := by
  obtain ⟨a, ha⟩ : ∃ a, a = y / 4 := ⟨_, rfl⟩
  obtain ⟨b, hb⟩ : ∃ b, b = y / 100 := ⟨_, rfl⟩
  obtain ⟨c, hc⟩ : ∃ c, c = y / 400 := ⟨_, rfl⟩
  have ha' : (y : Int) / 4 = (a : Int) := by omega
  have hb' : (y : Int) / 100 = (b : Int) := by omega
  have hc' : (y : Int) / 400 = (c : Int) := by omega
  have hl : (leapsN y : Int) = (a : Int) - (b : Int) + (c : Int) := by unfold leapsN; omega
  have l1 : b ≤ a := by omega
  have l2 : a ≤ 10000 := by omega
  have l3 : c ≤ 10000 := by omega
  rw [hl]
  clear hl ha hb hc
  go_enter Tryd.func78, Tryd.ntmps78
  go_wp2
  go_ret
  exact ⟨rfl, rfl⟩

set_option maxHeartbeats 1000000 in
set_option maxRecDepth 100000 in
theorem first_any' (y : Nat) (w : World) (h1 : 1900 ≤ y) (hy : y ≤ 10000) : Calls Tryd.prog 68 #[.int .i64 (y : Int)] w (RetI w (yd y : Int)) := by
  obtain ⟨k, rfl⟩ : ∃ k, y = k + 1 := ⟨y - 1, by omega⟩
  have hl := leaps_ge (y := k) (by omega)
  have H1 := Lib.hid (fun W => leaps_any k W (by omega))
  have H2 := Lib.hid (fun W => leaps_any 1899 W (by omega))
  have e2 : (leapsN 1899 : Int) = 460 := by decide
  have hu : leapsN k ≤ 10000 := by unfold leapsN; omega
  obtain ⟨L, hL⟩ : ∃ L, L = leapsN k := ⟨_, rfl⟩
  have hy' : (yd (k + 1) : Int) = 365 * ((k : Int) + 1 - 1900) + (L : Int) - 460 := by unfold yd; rw [Nat.add_sub_cancel, ← hL]; omega
  rw [hy']
  rw [← hL] at H1 hl hu
  rw [e2] at H2
  have ek : ((k + 1 : Nat) : Int) = (k : Int) + 1 := by omega
  rw [ek]
  clear hy' hL e2 ek
  go_enter Tryd.func68, Tryd.ntmps68
  go_wp2_with fail
  refine (H1.out _).mono ?_
  rintro e w' ⟨rfl, rfl⟩
  go_wp2_with fail
  refine (H2.out _).mono ?_
  rintro e w' ⟨rfl, rfl⟩
  go_wp2
  go_ret
  exact ⟨rfl, rfl⟩

end Go.Proofs.YtijkefflpojmhaaDoor
