/-
  strings.Cut at one byte; strings.CutPrefix at a minus sign. Condition: at most 1,000,000 bytes. The program's Show of an amount. Condition: what the package-level variables hold.
-/
import Derived.Test.YtnikhbdjlipcbaaDoorVx
import Derived.Test.YtnikhbdjlipcbaaDoorVm
import Derived.Test.YtnikhbdjlipcbaaDoorVd
import Derived.Test.YtnikhbdjlipcbaaDoorVf
import Derived.RegionTactic
import Derived.Test.YtnikhbdjlipcbaaDoorVw
import Derived.Lib.SmallJoins
import Derived.Lib.AppendIntMem
import Derived.Shelf.Unicode.PredsPay
namespace Go.Proofs.YtnikhbdjlipcbaaDoor
open Go.RowKit Go.Shelf

theorem idxB (l : List UInt8) (c : UInt8) : (Lib.indexByte l c = -1 ∧ c ∉ l) ∨ (∃ k : Nat, Lib.indexByte l c = (k : Int) ∧ k < l.length ∧ c ∈ l ∧ upTo c l = l.take k ∧ past c l = l.drop (k + 1)) := by
  have h0 := Lib.indexByte_ge l c
  by_cases h : Lib.indexByte l c = -1
  · refine .inl ⟨h, fun hm => ?_⟩
    obtain ⟨j, hj⟩ := List.getElem?_of_mem hm
    exact Lib.indexByte_none h j hj
  · right
    obtain ⟨o, ho⟩ : ∃ o : Nat, Lib.indexByte l c = o := ⟨(Lib.indexByte l c).toNat, by omega⟩
    obtain ⟨h1, h2⟩ := Lib.indexByte_some ho
    have hl : o < l.length := by
      rcases Nat.lt_or_ge o l.length with h | h
      · exact h
      · rw [List.getElem?_eq_none h] at h1; cases h1
    have hsp : l = l.take o ++ c :: l.drop (o + 1) := by
      have e := (List.take_append_drop o l).symm
      rw [List.drop_eq_getElem_cons hl] at e
      have : l[o] = c := by
        have := List.getElem?_eq_getElem hl
        rw [h1] at this
        exact (Option.some.inj this).symm
      rwa [this] at e
    have hno : c ∉ l.take o := fun hm => by
      obtain ⟨j, hj⟩ := List.getElem?_of_mem hm
      have hlt : j < o := by
        have := (List.getElem?_eq_some_iff.1 hj).1
        simp at this; omega
      rw [List.getElem?_take_of_lt hlt] at hj
      exact h2 j hlt hj
    have hs := upTo_of (A := l.take o) (B := l.drop (o + 1)) hno
    rw [← hsp] at hs
    exact ⟨o, ho, hl, List.mem_of_getElem? h1, hs.1, hs.2⟩
def CutQ (w : World) (n d : ByteArray) (b : Bool) (e : Ending) (w' : World) : Prop := e = .returned (.tuple #[.string n, .string d, .bool b]) ∧ Below w.heap.size w w'
set_option maxHeartbeats 1000000 in
set_option maxRecDepth 100000 in
theorem cutb_none (s : ByteArray) (c : UInt8) (w : World) (e : Lib.indexByte s.data.toList c = -1) :
    Calls Tryd.prog 83 #[.string s, .string ⟨#[c]⟩] w (CutQ w s ByteArray.empty false) := by
  have hi := Tryd.stringslite_Index_one s c w
  rw [e] at hi
  have HI := Lib.hid hi
  clear hi e
  go_enter Tryd.func83, Tryd.ntmps83
  go_wp2_with fail
  refine HI.out.mono ?_
  rintro e w' ⟨rfl, rfl⟩
  go_wp2_with fail
  go_ret3
  exact ⟨rfl, Below.refl _ _⟩
set_option maxHeartbeats 1000000 in
set_option maxRecDepth 100000 in
theorem cutb_at (s : ByteArray) (c : UInt8) (k : Nat) (w : World) (hs : s.size ≤ 1000000) (e : Lib.indexByte s.data.toList c = (k : Int)) (hk : k < s.size) :
    Calls Tryd.prog 83 #[.string s, .string ⟨#[c]⟩] w (CutQ w (s.extract 0 k) (s.extract (k + 1) s.size) true) := by
  have hi := Tryd.stringslite_Index_one s c w
  rw [e] at hi
  have HI := Lib.hid hi
  clear hi e
  go_enter Tryd.func83, Tryd.ntmps83
  go_wp2_with fail
  refine HI.out.mono ?_
  rintro e w' ⟨rfl, rfl⟩
  go_wp2_with fail
  go_region
  all_goals
    go_wp2_with fail
    go_ret3
    exact ⟨rfl, (Below.refl _ _).drew⟩
set_option maxHeartbeats 1000000 in
set_option maxRecDepth 100000 in
theorem cutb_of (s n d : ByteArray) (c : UInt8) (b : Bool) (w : World) (h : Calls Tryd.prog 83 #[.string s, .string ⟨#[c]⟩] w (CutQ w n d b)) :
    Calls Tryd.prog 36 #[.string s, .string ⟨#[c]⟩] w (CutQ w n d b) := by
  have HC := Lib.hid h
  clear h
  go_enter Tryd.func36, Tryd.ntmps36
  go_wp2_with fail
  refine HC.out.mono ?_
  rintro e w' ⟨rfl, b1⟩
  have B1 := Lib.hid b1
  clear b1
  go_wp2_with fail
  go_ret3
  exact ⟨rfl, B1.out⟩
theorem ext_data (s : ByteArray) (a b : Nat) : (s.extract a b).data.toList = (s.data.toList.drop a).take (b - a) := by
  rw [ByteArray.data_extract, Array.toList_extract, List.extract_eq_take_drop]
/-- strings.Cut at one byte. -/
theorem cutb_any (s : ByteArray) (c : UInt8) (w : World) (hs : s.size ≤ 1000000) :
    Calls Tryd.prog 36 #[.string s, .string ⟨#[c]⟩] w (CutQ w ⟨(upTo c s.data.toList).toArray⟩ ⟨(past c s.data.toList).toArray⟩ (s.data.toList.contains c)) := by
  rcases idxB s.data.toList c with ⟨h1, h2⟩ | ⟨k, h1, h2, h3, h4, h5⟩
  · have h := cutb_of s _ _ c false w (cutb_none s c w h1)
    obtain ⟨e1, e2⟩ := upTo_no h2
    have hc : s.data.toList.contains c = false := by simpa using h2
    rw [e1, e2, hc]
    exact h
  · rw [data_len] at h2
    have h := cutb_of s _ _ c true w (cutb_at s c k w hs h1 h2)
    have hc : s.data.toList.contains c = true := by simpa using h3
    rw [h4, h5, hc]
    have e1 : s.extract 0 k = ⟨(s.data.toList.take k).toArray⟩ := Go.WideShapes.bytes_inj (by rw [ext_data]; simp)
    have e2 : s.extract (k + 1) s.size = ⟨(s.data.toList.drop (k + 1)).toArray⟩ := Go.WideShapes.bytes_inj (by rw [ext_data, List.take_of_length_le (by simp)])
    rw [← e1, ← e2]
    exact h

end Go.Proofs.YtnikhbdjlipcbaaDoor

namespace Go.Proofs.YtnikhbdjlipcbaaDoor
open Go.RowKit Go.Shelf

/-- What the package-level variables hold. -/
structure Env (W : World) : Prop where
  tab : Lib.TabIs Tryd.prog W "internal/strconv.uint64pow10" .u64 Lib.pow10Tab
  rng : ∃ ev, W.cell? ⟨3, 0, none⟩ = some ev ∧ (ev = .nilIface ∨ ∃ te pe, ev = .iface te pe)
theorem cell_belowT {w w' : World} (hb : Below w.heap.size w w') {g : Nat} {v : Value} (hc : w.cell? ⟨g, 0, none⟩ = some v) : w'.cell? ⟨g, 0, none⟩ = some v := ((bcell hb).1 _ _ (cell_lt (a := ⟨g, 0, none⟩) hc)).trans hc
theorem Env.below {w w' : World} (h : Env w) (hb : Below w.heap.size w w') : Env w' := by
  obtain ⟨h2, ⟨e2, h4, h4'⟩⟩ := h
  exact ⟨TabIs_below (show Tryd.prog.globalNamed "internal/strconv.uint64pow10" = some 4 by kernel_rfl) h2 hb, ⟨e2, cell_belowT hb h4, h4'⟩⟩
/-- The digits of a number, as a string. -/
def decS (n : Nat) : ByteArray := ⟨(Lib.decDigits n).toArray⟩
/-- A contract that holds in every later world. -/
def Ct (w : World) (f : FuncId) (args : Array Value) (v : Value) : Prop := ∀ W : World, Below w.heap.size w W → Calls Tryd.prog f args W fun e w' => e = .returned v ∧ Below W.heap.size W w'
theorem Ct.use {w W : World} {f : FuncId} {args : Array Value} {v : Value} (h : Ct w f args v) (hb : Below w.heap.size w W) : Calls Tryd.prog f args W fun e w' => e = .returned v ∧ Below W.heap.size W w' := h W hb
def amtOK (n : Int) : Bool := decide (-1125899906842624 ≤ n ∧ n ≤ 1125899906842624)
set_option maxHeartbeats 4000000 in
set_option maxRecDepth 100000 in
theorem mamount_any (n : Int) (w : World) : Calls Tryd.prog 24 #[.int .i64 n] w (RetB w (amtOK n)) := by
  by_cases h1 : -1125899906842624 ≤ n
  · by_cases h2 : n ≤ 1125899906842624
    · have e : amtOK n = true := by unfold amtOK; simp; omega
      rw [e]
      clear e
      go_enter Tryd.func24, Tryd.ntmps24
      go_wp2
      go_ret
      exact ⟨ret_bool (by first | rfl | (simp; omega)), rfl⟩
    · have e : amtOK n = false := by unfold amtOK; simp; omega
      rw [e]
      clear e
      go_enter Tryd.func24, Tryd.ntmps24
      go_wp2
      go_ret
      exact ⟨ret_bool (by first | rfl | (simp; omega)), rfl⟩
  · have e : amtOK n = false := by unfold amtOK; simp; omega
    rw [e]
    clear e
    go_enter Tryd.func24, Tryd.ntmps24
    go_wp2
    go_ret
    exact ⟨ret_bool (by first | rfl | (simp; omega)), rfl⟩
set_option maxHeartbeats 4000000 in
set_option maxRecDepth 100000 in
theorem ramount_any (n : Int) (w : World) : Calls Tryd.prog 31 #[.int .i64 n] w (RetB w (amtOK n)) := by
  by_cases h1 : -1125899906842624 ≤ n
  · by_cases h2 : n ≤ 1125899906842624
    · have e : amtOK n = true := by unfold amtOK; simp; omega
      rw [e]
      clear e
      go_enter Tryd.func31, Tryd.ntmps31
      go_wp2
      go_ret
      exact ⟨ret_bool (by first | rfl | (simp; omega)), rfl⟩
    · have e : amtOK n = false := by unfold amtOK; simp; omega
      rw [e]
      clear e
      go_enter Tryd.func31, Tryd.ntmps31
      go_wp2
      go_ret
      exact ⟨ret_bool (by first | rfl | (simp; omega)), rfl⟩
  · have e : amtOK n = false := by unfold amtOK; simp; omega
    rw [e]
    clear e
    go_enter Tryd.func31, Tryd.ntmps31
    go_wp2
    go_ret
    exact ⟨ret_bool (by first | rfl | (simp; omega)), rfl⟩
theorem unit_le {l : List UInt8} {u : Nat} (h : unitOf l = some u) : u ≤ 3 := by
  unfold unitOf at h
  split at h
  · have := Option.some.inj h
    subst this
    unfold spU
    repeat' split
    all_goals decide
  · cases h
theorem dec_len (k : Nat) : ∀ u, u < 10 ^ (k + 1) → (Lib.decDigits u).length ≤ k + 1 := by
  induction k with
  | zero =>
    intro u hu
    rw [Lib.decDigits, dif_pos (by simpa using hu)]; simp
  | succ k ih =>
    intro u hu
    rw [Lib.decDigits]
    split
    · simp
    · have := ih (u / 10) (by rw [Nat.pow_succ] at hu; omega)
      simp; omega
theorem show_zero {Z sg c : ByteArray} {D : List UInt8} (hz : Z.data.toList = D) : (sg ++ Z ++ ⟨#[32]⟩ ++ c).data.toList = sg.data.toList ++ (D ++ []) ++ 32 :: c.data.toList := by
  simp [hz]
theorem show_more {Z sg c : ByteArray} {D F : List UInt8} {dl zs : Nat} (hz : Z.data.toList = D ++ F) (hd : D.length = dl) (hzs : Z.size = zs) : (sg ++ (Z.extract 0 dl ++ ⟨#[46]⟩ ++ Z.extract dl zs) ++ ⟨#[32]⟩ ++ c).data.toList = sg.data.toList ++ (D ++ 46 :: F) ++ 32 :: c.data.toList := by
  have e1 : (Z.extract 0 dl).data.toList = D := by rw [ext_data, hz]; simp [← hd]
  have e2 : (Z.extract dl zs).data.toList = F := by
    subst hzs
    rw [ext_data, List.take_of_length_le (by simp), hz]; simp [← hd]
  simp only [ByteArray.data_append, Array.toList_append, e1, e2]
  simp
theorem ret_str {x y : ByteArray} {n : Int} (h : x = y) : Ending.returned (.tuple #[.string x, .int .i64 n]) = .returned (.tuple #[.string y, .int .i64 n]) := by rw [h]
def SPost (w : World) (s : ByteArray) (n : Int) (e : Ending) (w' : World) : Prop := e = .returned (.tuple #[.string s, .int .i64 n]) ∧ Below w.heap.size w w'
set_option maxHeartbeats 4000000 in
set_option maxRecDepth 100000 in
theorem mshow_unit (n : Int) (c : ByteArray) (w : World) (hu : unitOf c.data.toList = none) : Calls Tryd.prog 11 #[.int .i64 n, .string c] w (SPost w ⟨#[]⟩ 2) := by
  have HU := Lib.hid (fun W => munit_any c W)
  rw [hu] at HU
  clear hu
  go_enter Tryd.func11, Tryd.ntmps11
  go_wp2_with fail
  refine (HU.out _).mono ?_
  rintro e w1 ⟨rfl, b1⟩
  have B1 := Lib.hid b1
  clear b1
  go_wp2_with fail
  go_ret2
  exact ⟨rfl, B1.out⟩
set_option maxHeartbeats 4000000 in
set_option maxRecDepth 100000 in
theorem mshow_amt (n : Int) (c : ByteArray) (u : Nat) (w : World) (hu : unitOf c.data.toList = some u) (ha : amtOK n = false) : Calls Tryd.prog 11 #[.int .i64 n, .string c] w (SPost w ⟨#[]⟩ 2) := by
  have HU := Lib.hid (fun W => munit_any c W)
  have HA := Lib.hid (fun W => mamount_any n W)
  rw [hu] at HU
  rw [ha] at HA
  clear hu ha
  go_enter Tryd.func11, Tryd.ntmps11
  go_wp2_with fail
  refine (HU.out _).mono ?_
  rintro e w1 ⟨rfl, b1⟩
  have B1 := Lib.hid b1
  clear b1
  go_wp2_with fail
  refine (HA.out _).mono ?_
  rintro e w' ⟨rfl, rfl⟩
  go_wp2_with fail
  go_ret2
  exact ⟨rfl, B1.out⟩
end Go.Proofs.YtnikhbdjlipcbaaDoor
