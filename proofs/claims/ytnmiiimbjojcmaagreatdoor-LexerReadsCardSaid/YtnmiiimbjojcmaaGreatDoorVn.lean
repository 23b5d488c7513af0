/-
  The program's Check of rationals. No condition. The program's Check of rationals, joined. No condition.
-/
import Derived.Test.YtnmiiimbjojcmaaGreatDoorVl
import Derived.Test.YtnmiiimbjojcmaaGreatDoorVm
import Derived.RegionTactic
namespace Go.Proofs.YtnmiiimbjojcmaaGreatDoor
open Go.RowKit Go.Shelf

theorem idx_slN (l : List UInt8) : (Lib.indexByte l 47 = -1 ∧ slN l = l.length) ∨ (Lib.indexByte l 47 = (slN l : Int) ∧ slN l < l.length) := by
  have h0 := Lib.indexByte_ge l 47
  by_cases h : Lib.indexByte l 47 = -1
  · exact .inl ⟨h, slN_none fun j _ => Lib.indexByte_none h j⟩
  · right
    obtain ⟨o, ho⟩ : ∃ o : Nat, Lib.indexByte l 47 = o := ⟨(Lib.indexByte l 47).toNat, by omega⟩
    obtain ⟨h1, h2⟩ := Lib.indexByte_some ho
    have hl : o < l.length := by
      rcases Nat.lt_or_ge o l.length with h | h
      · exact h
      · rw [List.getElem?_eq_none h] at h1; cases h1
    have := slN_at hl h2 h1
    rw [this]; exact ⟨ho, hl⟩
/-- The two parts and whether there are two. -/
def CutPost (w : World) (n d : ByteArray) (b : Bool) (e : Ending) (w' : World) : Prop := e = .returned (.tuple #[.string n, .string d, .bool b]) ∧ Below w.heap.size w w'

def frmZ (l : List UInt8) : Int := if chkZ l = 12 then 12 else 0
theorem chkZ_three (l : List UInt8) : chkZ l = 0 ∨ chkZ l = 12 ∨ chkZ l = 14 := by
  rcases chkZ_cases l with ⟨h, _⟩ | ⟨z, _, _, h⟩
  · exact .inr (.inl h)
  · rw [h]; split
    · exact .inr (.inr rfl)
    · exact .inl rfl

end Go.Proofs.YtnmiiimbjojcmaaGreatDoor

namespace Go.Proofs.YtnmiiimbjojcmaaGreatDoor
open Go.RowKit Go.Shelf

theorem check_is (s : ByteArray) (n : Int) (h : chkZ s.data.toList = n) (hs : s.size ≤ 1000000) :
    ∀ W, Calls Tryz.prog 102 #[.string s] W fun e w' => e = .returned (.int .i64 n) ∧ W = w' := fun W => by
  have := check_same s W hs
  rwa [h] at this
theorem frmZ_12 {l : List UInt8} (h : chkZ l = 12) : frmZ l = 12 := by unfold frmZ; rw [if_pos h]
theorem frmZ_0 {l : List UInt8} (h : chkZ l ≠ 12) : frmZ l = 0 := by unfold frmZ; rw [if_neg h]

end Go.Proofs.YtnmiiimbjojcmaaGreatDoor
