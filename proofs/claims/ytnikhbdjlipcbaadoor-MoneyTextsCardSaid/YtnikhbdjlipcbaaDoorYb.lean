/-
  strings.Cut at one byte; strings.CutPrefix at a minus sign. Condition: at most 1,000,000 bytes.
-/
import Derived.Test.YtnikhbdjlipcbaaDoorYd
import Derived.Test.YtnikhbdjlipcbaaDoorShelfb
import Derived.Test.YtnikhbdjlipcbaaDoorIa
import Derived.Test.YtnikhbdjlipcbaaDoorIf
import Derived.RegionTactic
namespace Go.Proofs.YtnikhbdjlipcbaaDoor
open Go.RowKit Go.Shelf

theorem idxB (l : List UInt8) (c : UInt8) : (Lib.indexByte l c = -1 ∧ c ∉ l) ∨ (∃ k : Nat, Lib.indexByte l c = (k : Int) ∧ k < l.length ∧ c ∈ l ∧ upTo c l = l.take k ∧ past c l = l.drop (k + 1)) := by
  have h0 := Lib.indexByte_ge l c
  by_cases h : Lib.indexByte l c = -1
  · refine .inl ⟨h, fun hm => ?_⟩
    obtain ⟨j, hj⟩ := List.getElem?_of_mem hm
    exact Lib.indexByte_none h j hj
  · right
    obtain ⟨o, ho⟩ : ∃ o : Nat, Lib.indexByte l c = o := ⟨(Lib.indexByte l c).toNat, by omega⟩
    obtain ⟨h1, h2⟩ := Lib.indexByte_some ho
    have hl : o < l.length := by
      rcases Nat.lt_or_ge o l.length with h | h
      · exact h
      · rw [List.getElem?_eq_none h] at h1; cases h1
    have hsp : l = l.take o ++ c :: l.drop (o + 1) := by
      have e := (List.take_append_drop o l).symm
      rw [List.drop_eq_getElem_cons hl] at e
      have : l[o] = c := by
        have := List.getElem?_eq_getElem hl
        rw [h1] at this
        exact (Option.some.inj this).symm
      rwa [this] at e
    have hno : c ∉ l.take o := fun hm => by
      obtain ⟨j, hj⟩ := List.getElem?_of_mem hm
      have hlt : j < o := by
        have := (List.getElem?_eq_some_iff.1 hj).1
        simp at this; omega
      rw [List.getElem?_take_of_lt hlt] at hj
      exact h2 j hlt hj
    have hs := upTo_of (A := l.take o) (B := l.drop (o + 1)) hno
    rw [← hsp] at hs
    exact ⟨o, ho, hl, List.mem_of_getElem? h1, hs.1, hs.2⟩
def CutQ (w : World) (n d : ByteArray) (b : Bool) (e : Ending) (w' : World) : Prop := e = .returned (.tuple #[.string n, .string d, .bool b]) ∧ Below w.heap.size w w'
set_option maxHeartbeats 1000000 in
set_option maxRecDepth 100000 in
theorem cutb_none (s : ByteArray) (c : UInt8) (w : World) (e : Lib.indexByte s.data.toList c = -1) :
    Calls Tryd.prog 83 #[.string s, .string ⟨#[c]⟩] w (CutQ w s ByteArray.empty false) := by
  have hi := Tryd.stringslite_Index_one s c w
  rw [e] at hi
  have HI := Lib.hid hi
  clear hi e
  go_enter Tryd.func83, Tryd.ntmps83
  go_wp2_with fail
  refine HI.out.mono ?_
  rintro e w' ⟨rfl, rfl⟩
  go_wp2_with fail
  go_ret3
  exact ⟨rfl, Below.refl _ _⟩
set_option maxHeartbeats 1000000 in
set_option maxRecDepth 100000 in
theorem cutb_at (s : ByteArray) (c : UInt8) (k : Nat) (w : World) (hs : s.size ≤ 1000000) (e : Lib.indexByte s.data.toList c = (k : Int)) (hk : k < s.size) :
    Calls Tryd.prog 83 #[.string s, .string ⟨#[c]⟩] w (CutQ w (s.extract 0 k) (s.extract (k + 1) s.size) true) := by
  have hi := Tryd.stringslite_Index_one s c w
  rw [e] at hi
  have HI := Lib.hid hi
  clear hi e
  go_enter Tryd.func83, Tryd.ntmps83
  go_wp2_with fail
  refine HI.out.mono ?_
  rintro e w' ⟨rfl, rfl⟩
  go_wp2_with fail
  go_region
  all_goals
    go_wp2_with fail
    go_ret3
    exact ⟨rfl, (Below.refl _ _).drew⟩
set_option maxHeartbeats 1000000 in
set_option maxRecDepth 100000 in
theorem cutb_of (s n d : ByteArray) (c : UInt8) (b : Bool) (w : World) (h : Calls Tryd.prog 83 #[.string s, .string ⟨#[c]⟩] w (CutQ w n d b)) :
    Calls Tryd.prog 36 #[.string s, .string ⟨#[c]⟩] w (CutQ w n d b) := by
  have HC := Lib.hid h
  clear h
  go_enter Tryd.func36, Tryd.ntmps36
  go_wp2_with fail
  refine HC.out.mono ?_
  rintro e w' ⟨rfl, b1⟩
  have B1 := Lib.hid b1
  clear b1
  go_wp2_with fail
  go_ret3
  exact ⟨rfl, B1.out⟩
theorem ext_data (s : ByteArray) (a b : Nat) : (s.extract a b).data.toList = (s.data.toList.drop a).take (b - a) := by
  rw [ByteArray.data_extract, Array.toList_extract, List.extract_eq_take_drop]
/-- strings.Cut at one byte. -/
theorem cutb_any (s : ByteArray) (c : UInt8) (w : World) (hs : s.size ≤ 1000000) :
    Calls Tryd.prog 36 #[.string s, .string ⟨#[c]⟩] w (CutQ w ⟨(upTo c s.data.toList).toArray⟩ ⟨(past c s.data.toList).toArray⟩ (s.data.toList.contains c)) := by
  rcases idxB s.data.toList c with ⟨h1, h2⟩ | ⟨k, h1, h2, h3, h4, h5⟩
  · have h := cutb_of s _ _ c false w (cutb_none s c w h1)
    obtain ⟨e1, e2⟩ := upTo_no h2
    have hc : s.data.toList.contains c = false := by simpa using h2
    rw [e1, e2, hc]
    exact h
  · rw [data_len] at h2
    have h := cutb_of s _ _ c true w (cutb_at s c k w hs h1 h2)
    have hc : s.data.toList.contains c = true := by simpa using h3
    rw [h4, h5, hc]
    have e1 : s.extract 0 k = ⟨(s.data.toList.take k).toArray⟩ := Go.WideShapes.bytes_inj (by rw [ext_data]; simp)
    have e2 : s.extract (k + 1) s.size = ⟨(s.data.toList.drop (k + 1)).toArray⟩ := Go.WideShapes.bytes_inj (by rw [ext_data, List.take_of_length_le (by simp)])
    rw [← e1, ← e2]
    exact h

end Go.Proofs.YtnikhbdjlipcbaaDoor
