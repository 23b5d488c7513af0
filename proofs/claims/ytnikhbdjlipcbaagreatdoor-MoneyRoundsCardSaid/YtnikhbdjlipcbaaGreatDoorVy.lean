/-
  strings.Cut at one byte; strings.CutPrefix at a minus sign. Condition: at most 1,000,000 bytes. The program's Show of an amount. Condition: what the package-level variables hold.
-/
import Derived.Test.YtnikhbdjlipcbaaGreatDoorVx
import Derived.Test.YtnikhbdjlipcbaaGreatDoorVm
import Derived.Test.YtnikhbdjlipcbaaGreatDoorVd
import Derived.Test.YtnikhbdjlipcbaaGreatDoorVf
import Derived.RegionTactic
import Derived.Test.YtnikhbdjlipcbaaGreatDoorVw
import Derived.Lib.SmallJoins
import Derived.Lib.AppendIntMem
import Derived.Shelf.Unicode.PredsPay
namespace Go.Proofs.YtnikhbdjlipcbaaGreatDoor
open Go.RowKit Go.Shelf

theorem idxB (l : List UInt8) (c : UInt8) : (Lib.indexByte l c = -1 ∧ c ∉ l) ∨ (∃ k : Nat, Lib.indexByte l c = (k : Int) ∧ k < l.length ∧ c ∈ l ∧ upTo c l = l.take k ∧ past c l = l.drop (k + 1)) := by
  have h0 := Lib.indexByte_ge l c
  by_cases h : Lib.indexByte l c = -1
  · refine .inl ⟨h, fun hm => ?_⟩
    obtain ⟨j, hj⟩ := List.getElem?_of_mem hm
    exact Lib.indexByte_none h j hj
  · right
    obtain ⟨o, ho⟩ : ∃ o : Nat, Lib.indexByte l c = o := ⟨(Lib.indexByte l c).toNat, by omega⟩
    obtain ⟨h1, h2⟩ := Lib.indexByte_some ho
    have hl : o < l.length := by
      rcases Nat.lt_or_ge o l.length with h | h
      · exact h
      · rw [List.getElem?_eq_none h] at h1; cases h1
    have hsp : l = l.take o ++ c :: l.drop (o + 1) := by
      have e := (List.take_append_drop o l).symm
      rw [List.drop_eq_getElem_cons hl] at e
      have : l[o] = c := by
        have := List.getElem?_eq_getElem hl
        rw [h1] at this
        exact (Option.some.inj this).symm
      rwa [this] at e
    have hno : c ∉ l.take o := fun hm => by
      obtain ⟨j, hj⟩ := List.getElem?_of_mem hm
      have hlt : j < o := by
        have := (List.getElem?_eq_some_iff.1 hj).1
        simp at this; omega
      rw [List.getElem?_take_of_lt hlt] at hj
      exact h2 j hlt hj
    have hs := upTo_of (A := l.take o) (B := l.drop (o + 1)) hno
    rw [← hsp] at hs
    exact ⟨o, ho, hl, List.mem_of_getElem? h1, hs.1, hs.2⟩
def CutQ (w : World) (n d : ByteArray) (b : Bool) (e : Ending) (w' : World) : Prop := e = .returned (.tuple #[.string n, .string d, .bool b]) ∧ Below w.heap.size w w'
set_option maxHeartbeats 1000000 in
set_option maxRecDepth 100000 in
theorem cutb_none (s : ByteArray) (c : UInt8) (w : World) (e : Lib.indexByte s.data.toList c = -1) :
    Calls Tryz.prog 57 #[.string s, .string ⟨#[c]⟩] w (CutQ w s ByteArray.empty false) := by
  have hi := Tryz.stringslite_Index_one s c w
  rw [e] at hi
  have HI := Lib.hid hi
  clear hi e
  go_enter Tryz.func57, Tryz.ntmps57
  go_wp2_with fail
  refine HI.out.mono ?_
  rintro e w' ⟨rfl, rfl⟩
  go_wp2_with fail
  go_ret3
  exact ⟨rfl, Below.refl _ _⟩
set_option maxHeartbeats 1000000 in
set_option maxRecDepth 100000 in
theorem cutb_at (s : ByteArray) (c : UInt8) (k : Nat) (w : World) (hs : s.size ≤ 1000000) (e : Lib.indexByte s.data.toList c = (k : Int)) (hk : k < s.size) :
    Calls Tryz.prog 57 #[.string s, .string ⟨#[c]⟩] w (CutQ w (s.extract 0 k) (s.extract (k + 1) s.size) true) := by
  have hi := Tryz.stringslite_Index_one s c w
  rw [e] at hi
  have HI := Lib.hid hi
  clear hi e
  go_enter Tryz.func57, Tryz.ntmps57
  go_wp2_with fail
  refine HI.out.mono ?_
  rintro e w' ⟨rfl, rfl⟩
  go_wp2_with fail
  go_region
  all_goals
    go_wp2_with fail
    go_ret3
    exact ⟨rfl, (Below.refl _ _).drew⟩
set_option maxHeartbeats 1000000 in
set_option maxRecDepth 100000 in
theorem cutb_of (s n d : ByteArray) (c : UInt8) (b : Bool) (w : World) (h : Calls Tryz.prog 57 #[.string s, .string ⟨#[c]⟩] w (CutQ w n d b)) :
    Calls Tryz.prog 28 #[.string s, .string ⟨#[c]⟩] w (CutQ w n d b) := by
  have HC := Lib.hid h
  clear h
  go_enter Tryz.func28, Tryz.ntmps28
  go_wp2_with fail
  refine HC.out.mono ?_
  rintro e w' ⟨rfl, b1⟩
  have B1 := Lib.hid b1
  clear b1
  go_wp2_with fail
  go_ret3
  exact ⟨rfl, B1.out⟩
theorem ext_data (s : ByteArray) (a b : Nat) : (s.extract a b).data.toList = (s.data.toList.drop a).take (b - a) := by
  rw [ByteArray.data_extract, Array.toList_extract, List.extract_eq_take_drop]
/-- strings.Cut at one byte. -/
theorem cutb_any (s : ByteArray) (c : UInt8) (w : World) (hs : s.size ≤ 1000000) :
    Calls Tryz.prog 28 #[.string s, .string ⟨#[c]⟩] w (CutQ w ⟨(upTo c s.data.toList).toArray⟩ ⟨(past c s.data.toList).toArray⟩ (s.data.toList.contains c)) := by
  rcases idxB s.data.toList c with ⟨h1, h2⟩ | ⟨k, h1, h2, h3, h4, h5⟩
  · have h := cutb_of s _ _ c false w (cutb_none s c w h1)
    obtain ⟨e1, e2⟩ := upTo_no h2
    have hc : s.data.toList.contains c = false := by simpa using h2
    rw [e1, e2, hc]
    exact h
  · rw [data_len] at h2
    have h := cutb_of s _ _ c true w (cutb_at s c k w hs h1 h2)
    have hc : s.data.toList.contains c = true := by simpa using h3
    rw [h4, h5, hc]
    have e1 : s.extract 0 k = ⟨(s.data.toList.take k).toArray⟩ := Go.WideShapes.bytes_inj (by rw [ext_data]; simp)
    have e2 : s.extract (k + 1) s.size = ⟨(s.data.toList.drop (k + 1)).toArray⟩ := Go.WideShapes.bytes_inj (by rw [ext_data, List.take_of_length_le (by simp)])
    rw [← e1, ← e2]
    exact h

end Go.Proofs.YtnikhbdjlipcbaaGreatDoor

namespace Go.Proofs.YtnikhbdjlipcbaaGreatDoor
open Go.RowKit Go.Shelf

/-- What the package-level variables hold. -/
structure Env (W : World) : Prop where
  tab : Lib.TabIs Tryz.prog W "internal/strconv.uint64pow10" .u64 Lib.pow10Tab
  rng : ∃ ev, W.cell? ⟨3, 0, none⟩ = some ev ∧ (ev = .nilIface ∨ ∃ te pe, ev = .iface te pe)
theorem cell_belowT {w w' : World} (hb : Below w.heap.size w w') {g : Nat} {v : Value} (hc : w.cell? ⟨g, 0, none⟩ = some v) : w'.cell? ⟨g, 0, none⟩ = some v := ((bcell hb).1 _ _ (cell_lt (a := ⟨g, 0, none⟩) hc)).trans hc
theorem Env.below {w w' : World} (h : Env w) (hb : Below w.heap.size w w') : Env w' := by
  obtain ⟨h2, ⟨e2, h4, h4'⟩⟩ := h
  exact ⟨TabIs_below (show Tryz.prog.globalNamed "internal/strconv.uint64pow10" = some 4 by kernel_rfl) h2 hb, ⟨e2, cell_belowT hb h4, h4'⟩⟩
/-- The digits of a number, as a string. -/
def decS (n : Nat) : ByteArray := ⟨(Lib.decDigits n).toArray⟩
/-- A contract that holds in every later world. -/
def Ct (w : World) (f : FuncId) (args : Array Value) (v : Value) : Prop := ∀ W : World, Below w.heap.size w W → Calls Tryz.prog f args W fun e w' => e = .returned v ∧ Below W.heap.size W w'
theorem Ct.use {w W : World} {f : FuncId} {args : Array Value} {v : Value} (h : Ct w f args v) (hb : Below w.heap.size w W) : Calls Tryz.prog f args W fun e w' => e = .returned v ∧ Below W.heap.size W w' := h W hb
theorem itoa_ct {w : World} (h : Env w) (n : Nat) (h1 : n ≤ 9223372036854775807) : Ct w 26 #[.int .i64 (n : Int)] (.string (decS n)) := fun W hW =>
  (Tryz.strconv_Itoa (n : Int) (by omega) (by omega) W (h.below hW).tab).mono fun _ _ ⟨he, _, _, hw⟩ => ⟨by rw [he]; unfold decS Lib.itoa; rw [if_neg (by omega)]; rfl, hw ▸ Lib.below_grow _ _ (Nat.le_refl _) _ _⟩

def amtOK (n : Int) : Bool := decide (-1125899906842624 ≤ n ∧ n ≤ 1125899906842624)
set_option maxHeartbeats 4000000 in
set_option maxRecDepth 100000 in
theorem mamount_any (n : Int) (w : World) : Calls Tryz.prog 23 #[.int .i64 n] w (RetB w (amtOK n)) := by
  by_cases h1 : -1125899906842624 ≤ n
  · by_cases h2 : n ≤ 1125899906842624
    · have e : amtOK n = true := by unfold amtOK; simp; omega
      rw [e]
      clear e
      go_enter Tryz.func23, Tryz.ntmps23
      go_wp2
      go_ret
      exact ⟨ret_bool (by first | rfl | (simp; omega)), rfl⟩
    · have e : amtOK n = false := by unfold amtOK; simp; omega
      rw [e]
      clear e
      go_enter Tryz.func23, Tryz.ntmps23
      go_wp2
      go_ret
      exact ⟨ret_bool (by first | rfl | (simp; omega)), rfl⟩
  · have e : amtOK n = false := by unfold amtOK; simp; omega
    rw [e]
    clear e
    go_enter Tryz.func23, Tryz.ntmps23
    go_wp2
    go_ret
    exact ⟨ret_bool (by first | rfl | (simp; omega)), rfl⟩
theorem unit_le {l : List UInt8} {u : Nat} (h : unitOf l = some u) : u ≤ 3 := by
  unfold unitOf at h
  split at h
  · have := Option.some.inj h
    subst this
    unfold spU
    repeat' split
    all_goals decide
  · cases h
theorem rep_one (k : Nat) : (⟨(Lib.repeatL [48] k).toArray⟩ : ByteArray).data.toList = List.replicate k 48 := by
  show Lib.repeatL [48] k = _
  induction k with
  | zero => rfl
  | succ k ih => rw [List.replicate_succ, ← ih]; rfl
theorem dec_len (k : Nat) : ∀ u, u < 10 ^ (k + 1) → (Lib.decDigits u).length ≤ k + 1 := by
  induction k with
  | zero =>
    intro u hu
    rw [Lib.decDigits, dif_pos (by simpa using hu)]; simp
  | succ k ih =>
    intro u hu
    rw [Lib.decDigits]
    split
    · simp
    · have := ih (u / 10) (by rw [Nat.pow_succ] at hu; omega)
      simp; omega
theorem show_zero {Z sg c : ByteArray} {D : List UInt8} (hz : Z.data.toList = D) : (sg ++ Z ++ ⟨#[32]⟩ ++ c).data.toList = sg.data.toList ++ (D ++ []) ++ 32 :: c.data.toList := by
  simp [hz]
theorem show_more {Z sg c : ByteArray} {D F : List UInt8} {dl zs : Nat} (hz : Z.data.toList = D ++ F) (hd : D.length = dl) (hzs : Z.size = zs) : (sg ++ (Z.extract 0 dl ++ ⟨#[46]⟩ ++ Z.extract dl zs) ++ ⟨#[32]⟩ ++ c).data.toList = sg.data.toList ++ (D ++ 46 :: F) ++ 32 :: c.data.toList := by
  have e1 : (Z.extract 0 dl).data.toList = D := by rw [ext_data, hz]; simp [← hd]
  have e2 : (Z.extract dl zs).data.toList = F := by
    subst hzs
    rw [ext_data, List.take_of_length_le (by simp), hz]; simp [← hd]
  simp only [ByteArray.data_append, Array.toList_append, e1, e2]
  simp
theorem ret_str {x y : ByteArray} {n : Int} (h : x = y) : Ending.returned (.tuple #[.string x, .int .i64 n]) = .returned (.tuple #[.string y, .int .i64 n]) := by rw [h]
def SPost (w : World) (s : ByteArray) (n : Int) (e : Ending) (w' : World) : Prop := e = .returned (.tuple #[.string s, .int .i64 n]) ∧ Below w.heap.size w w'
set_option maxHeartbeats 4000000 in
set_option maxRecDepth 100000 in
theorem mshow_unit (n : Int) (c : ByteArray) (w : World) (hu : unitOf c.data.toList = none) : Calls Tryz.prog 10 #[.int .i64 n, .string c] w (SPost w ⟨#[]⟩ 2) := by
  have HU := Lib.hid (fun W => munit_any c W)
  rw [hu] at HU
  clear hu
  go_enter Tryz.func10, Tryz.ntmps10
  go_wp2_with fail
  refine (HU.out _).mono ?_
  rintro e w1 ⟨rfl, b1⟩
  have B1 := Lib.hid b1
  clear b1
  go_wp2_with fail
  go_ret2
  exact ⟨rfl, B1.out⟩
set_option maxHeartbeats 4000000 in
set_option maxRecDepth 100000 in
theorem mshow_amt (n : Int) (c : ByteArray) (u : Nat) (w : World) (hu : unitOf c.data.toList = some u) (ha : amtOK n = false) : Calls Tryz.prog 10 #[.int .i64 n, .string c] w (SPost w ⟨#[]⟩ 2) := by
  have HU := Lib.hid (fun W => munit_any c W)
  have HA := Lib.hid (fun W => mamount_any n W)
  rw [hu] at HU
  rw [ha] at HA
  clear hu ha
  go_enter Tryz.func10, Tryz.ntmps10
  go_wp2_with fail
  refine (HU.out _).mono ?_
  rintro e w1 ⟨rfl, b1⟩
  have B1 := Lib.hid b1
  clear b1
  go_wp2_with fail
  refine (HA.out _).mono ?_
  rintro e w' ⟨rfl, rfl⟩
  go_wp2_with fail
  go_ret2
  exact ⟨rfl, B1.out⟩
set_option maxHeartbeats 4000000 in
set_option maxRecDepth 100000 in
theorem mshow_pos_zero (a : Nat) (c : ByteArray) (w : World) (HE : Hid (Env w)) (hu : unitOf c.data.toList = some 0) (ha : a ≤ 1125899906842624) (hc : c.size ≤ 100000) : Calls Tryz.prog 10 #[.int .i64 (a : Int), .string c] w (SPost w ⟨(amtB (a : Int) 0 c.data.toList).toArray⟩ 0) := by
  have HU := Lib.hid (fun W => munit_any c W)
  have HA := Lib.hid (fun W => mamount_any (a : Int) W)
  rw [hu] at HU
  rw [show amtOK (a : Int) = true by unfold amtOK; simp; omega] at HA
  have HI := Lib.hid (itoa_ct HE.out a (by omega))
  obtain ⟨S, hS⟩ : ∃ S, S = decS a := ⟨_, rfl⟩
  have hSd : S.data.toList = Lib.decDigits a := by rw [hS]; rfl
  have hSl : S.size = (Lib.decDigits a).length := by rw [← data_len, hSd]
  have hS1 : 1 ≤ S.size := by rw [hSl]; exact dec_pos a
  have hS2 : S.size ≤ 20 := by
    rw [hSl]
    exact Nat.le_trans (dec_len 18 a (by omega)) (by omega)
  rw [← hS] at HI
  obtain ⟨k, hk⟩ : ∃ k : Nat, k = 0 + 1 - S.size := ⟨_, rfl⟩
  have hk20 : k ≤ 20 := by omega
  have HR := Lib.hid (fun W => Tryz.strings_Repeat ⟨#[48]⟩ k W (by omega) (by show 1 * k ≤ _; omega))
  obtain ⟨R, hR⟩ : ∃ R : ByteArray, R = ⟨(Lib.repeatL [48] k).toArray⟩ := ⟨_, rfl⟩
  have hRd : R.data.toList = List.replicate k 48 := by rw [hR]; exact rep_one k
  have hRl : R.size = k := by rw [← data_len, hRd]; simp
  rw [show (⟨#[48]⟩ : ByteArray).data.toList = [48] from rfl, ← hR] at HR
  have HSD := Lib.hid hSd
  have HRD := Lib.hid hRd
  have HSL := Lib.hid hSl
  have HK := Lib.hid hk
  clear hu hS hSd hR hRd hSl
  go_enter Tryz.func10, Tryz.ntmps10
  go_wp2_with fail
  refine (HU.out _).mono ?_
  rintro e w1 ⟨rfl, b1⟩
  have B1 := Lib.hid b1
  clear b1
  go_wp2_with fail
  refine (HA.out _).mono ?_
  rintro e w' ⟨rfl, rfl⟩
  go_wp2_with fail
  refine (HI.out.use B1.out).mono ?_
  rintro e w2 ⟨rfl, b2⟩
  have B2 := Lib.hid (B1.out.trans (b2.mono B1.out.size))
  clear b2
  go_wp2_with fail
  rw [show max (1 - (S.size : Int)) 0 = (k : Int) by omega]
  refine (HR.out _).mono ?_
  rintro e w3 ⟨rfl, b3⟩
  have B3 := Lib.hid (B2.out.trans (b3.mono B2.out.size))
  clear b3
  go_upto_region 9 with (fail)
  obtain ⟨Z, hZ⟩ : ∃ Z, Z = R ++ S := ⟨_, rfl⟩
  rw [← hZ]
  have hZd : Z.data.toList = Lib.decDigits (a / 10 ^ 0) ++ figB a 0 := by
    rw [hZ, ByteArray.data_append, Array.toList_append, HRD.out, HSD.out, HK.out, HSL.out]
    exact pad_split 0 a
  obtain ⟨dl, hdl⟩ : ∃ dl, dl = (Lib.decDigits (a / 10 ^ 0)).length := ⟨_, rfl⟩
  have hZs : Z.size = dl + 0 := by rw [← data_len, hZd, List.length_append, figB_len, hdl]
  have hdl1 : 1 ≤ dl := by rw [hdl]; exact dec_pos _
  have hdl2 : dl ≤ 20 := by
    rw [hdl]
    refine Nat.le_trans (dec_len 18 _ ?_) (by omega)
    exact Nat.lt_of_le_of_lt (Nat.div_le_self _ _) (by omega)
  have HZD := Lib.hid hZd
  have HDL := Lib.hid hdl
  clear hZ hZd hdl hRl
  go_wp2_with fail
  go_ret2
  refine ⟨ret_str (Go.WideShapes.bytes_inj ((show_zero HZD.out).trans ?_)), B3.out⟩
  show _ = amtB _ _ _
  unfold amtB
  rw [if_neg (by omega), Int.natAbs_natCast, if_pos rfl]; simp [figB]
set_option maxHeartbeats 4000000 in
set_option maxRecDepth 100000 in
theorem mshow_pos_more (a : Nat) (c : ByteArray) (u : Nat) (hu0 : 0 < u) (hu3 : u ≤ 3) (w : World) (HE : Hid (Env w)) (hu : unitOf c.data.toList = some u) (ha : a ≤ 1125899906842624) (hc : c.size ≤ 100000) : Calls Tryz.prog 10 #[.int .i64 (a : Int), .string c] w (SPost w ⟨(amtB (a : Int) u c.data.toList).toArray⟩ 0) := by
  have HU := Lib.hid (fun W => munit_any c W)
  have HA := Lib.hid (fun W => mamount_any (a : Int) W)
  rw [hu] at HU
  rw [show amtOK (a : Int) = true by unfold amtOK; simp; omega] at HA
  have HI := Lib.hid (itoa_ct HE.out a (by omega))
  obtain ⟨S, hS⟩ : ∃ S, S = decS a := ⟨_, rfl⟩
  have hSd : S.data.toList = Lib.decDigits a := by rw [hS]; rfl
  have hSl : S.size = (Lib.decDigits a).length := by rw [← data_len, hSd]
  have hS1 : 1 ≤ S.size := by rw [hSl]; exact dec_pos a
  have hS2 : S.size ≤ 20 := by
    rw [hSl]
    exact Nat.le_trans (dec_len 18 a (by omega)) (by omega)
  rw [← hS] at HI
  obtain ⟨k, hk⟩ : ∃ k : Nat, k = u + 1 - S.size := ⟨_, rfl⟩
  have hk20 : k ≤ 20 := by omega
  have HR := Lib.hid (fun W => Tryz.strings_Repeat ⟨#[48]⟩ k W (by omega) (by show 1 * k ≤ _; omega))
  obtain ⟨R, hR⟩ : ∃ R : ByteArray, R = ⟨(Lib.repeatL [48] k).toArray⟩ := ⟨_, rfl⟩
  have hRd : R.data.toList = List.replicate k 48 := by rw [hR]; exact rep_one k
  have hRl : R.size = k := by rw [← data_len, hRd]; simp
  rw [show (⟨#[48]⟩ : ByteArray).data.toList = [48] from rfl, ← hR] at HR
  have HSD := Lib.hid hSd
  have HRD := Lib.hid hRd
  have HSL := Lib.hid hSl
  have HK := Lib.hid hk
  clear hu hS hSd hR hRd hSl
  go_enter Tryz.func10, Tryz.ntmps10
  go_wp2_with fail
  refine (HU.out _).mono ?_
  rintro e w1 ⟨rfl, b1⟩
  have B1 := Lib.hid b1
  clear b1
  go_wp2_with fail
  refine (HA.out _).mono ?_
  rintro e w' ⟨rfl, rfl⟩
  go_wp2_with fail
  refine (HI.out.use B1.out).mono ?_
  rintro e w2 ⟨rfl, b2⟩
  have B2 := Lib.hid (B1.out.trans (b2.mono B1.out.size))
  clear b2
  go_wp2_with fail
  rw [show max (((u : Int) + 1) - (S.size : Int)) 0 = (k : Int) by omega]
  refine (HR.out _).mono ?_
  rintro e w3 ⟨rfl, b3⟩
  have B3 := Lib.hid (B2.out.trans (b3.mono B2.out.size))
  clear b3
  go_upto_region 9 with (fail)
  obtain ⟨Z, hZ⟩ : ∃ Z, Z = R ++ S := ⟨_, rfl⟩
  rw [← hZ]
  have hZd : Z.data.toList = Lib.decDigits (a / 10 ^ u) ++ figB a u := by
    rw [hZ, ByteArray.data_append, Array.toList_append, HRD.out, HSD.out, HK.out, HSL.out]
    exact pad_split u a
  obtain ⟨dl, hdl⟩ : ∃ dl, dl = (Lib.decDigits (a / 10 ^ u)).length := ⟨_, rfl⟩
  have hZs : Z.size = dl + u := by rw [← data_len, hZd, List.length_append, figB_len, hdl]
  have hdl1 : 1 ≤ dl := by rw [hdl]; exact dec_pos _
  have hdl2 : dl ≤ 20 := by
    rw [hdl]
    refine Nat.le_trans (dec_len 18 _ ?_) (by omega)
    exact Nat.lt_of_le_of_lt (Nat.div_le_self _ _) (by omega)
  have HZD := Lib.hid hZd
  have HDL := Lib.hid hdl
  clear hZ hZd hdl hRl
  go_upto_region 10 with (fail)
  go_upto_region 11 with (fail)
  go_region
  all_goals
    go_wp2_with fail
    go_ret2
    refine ⟨ret_str (Go.WideShapes.bytes_inj ((show_more HZD.out HDL.out.symm hZs).trans ?_)), B3.out.drew⟩
    show _ = amtB _ _ _
    unfold amtB
    rw [if_neg (by omega), Int.natAbs_natCast, if_neg (by omega)]
set_option maxHeartbeats 4000000 in
set_option maxRecDepth 100000 in
theorem mshow_neg_zero (a : Nat) (c : ByteArray) (ha0 : 0 < a) (w : World) (HE : Hid (Env w)) (hu : unitOf c.data.toList = some 0) (ha : a ≤ 1125899906842624) (hc : c.size ≤ 100000) : Calls Tryz.prog 10 #[.int .i64 (-(a : Int)), .string c] w (SPost w ⟨(amtB (-(a : Int)) 0 c.data.toList).toArray⟩ 0) := by
  have HU := Lib.hid (fun W => munit_any c W)
  have HA := Lib.hid (fun W => mamount_any (-(a : Int)) W)
  rw [hu] at HU
  rw [show amtOK (-(a : Int)) = true by unfold amtOK; simp; omega] at HA
  have HI := Lib.hid (itoa_ct HE.out a (by omega))
  obtain ⟨S, hS⟩ : ∃ S, S = decS a := ⟨_, rfl⟩
  have hSd : S.data.toList = Lib.decDigits a := by rw [hS]; rfl
  have hSl : S.size = (Lib.decDigits a).length := by rw [← data_len, hSd]
  have hS1 : 1 ≤ S.size := by rw [hSl]; exact dec_pos a
  have hS2 : S.size ≤ 20 := by
    rw [hSl]
    exact Nat.le_trans (dec_len 18 a (by omega)) (by omega)
  rw [← hS] at HI
  obtain ⟨k, hk⟩ : ∃ k : Nat, k = 0 + 1 - S.size := ⟨_, rfl⟩
  have hk20 : k ≤ 20 := by omega
  have HR := Lib.hid (fun W => Tryz.strings_Repeat ⟨#[48]⟩ k W (by omega) (by show 1 * k ≤ _; omega))
  obtain ⟨R, hR⟩ : ∃ R : ByteArray, R = ⟨(Lib.repeatL [48] k).toArray⟩ := ⟨_, rfl⟩
  have hRd : R.data.toList = List.replicate k 48 := by rw [hR]; exact rep_one k
  have hRl : R.size = k := by rw [← data_len, hRd]; simp
  rw [show (⟨#[48]⟩ : ByteArray).data.toList = [48] from rfl, ← hR] at HR
  have HSD := Lib.hid hSd
  have HRD := Lib.hid hRd
  have HSL := Lib.hid hSl
  have HK := Lib.hid hk
  clear hu hS hSd hR hRd hSl
  go_enter Tryz.func10, Tryz.ntmps10
  go_wp2_with fail
  refine (HU.out _).mono ?_
  rintro e w1 ⟨rfl, b1⟩
  have B1 := Lib.hid b1
  clear b1
  go_wp2_with fail
  refine (HA.out _).mono ?_
  rintro e w' ⟨rfl, rfl⟩
  go_wp2_with fail
  refine (HI.out.use B1.out).mono ?_
  rintro e w2 ⟨rfl, b2⟩
  have B2 := Lib.hid (B1.out.trans (b2.mono B1.out.size))
  clear b2
  go_wp2_with fail
  rw [show max (1 - (S.size : Int)) 0 = (k : Int) by omega]
  refine (HR.out _).mono ?_
  rintro e w3 ⟨rfl, b3⟩
  have B3 := Lib.hid (B2.out.trans (b3.mono B2.out.size))
  clear b3
  go_upto_region 9 with (fail)
  obtain ⟨Z, hZ⟩ : ∃ Z, Z = R ++ S := ⟨_, rfl⟩
  rw [← hZ]
  have hZd : Z.data.toList = Lib.decDigits (a / 10 ^ 0) ++ figB a 0 := by
    rw [hZ, ByteArray.data_append, Array.toList_append, HRD.out, HSD.out, HK.out, HSL.out]
    exact pad_split 0 a
  obtain ⟨dl, hdl⟩ : ∃ dl, dl = (Lib.decDigits (a / 10 ^ 0)).length := ⟨_, rfl⟩
  have hZs : Z.size = dl + 0 := by rw [← data_len, hZd, List.length_append, figB_len, hdl]
  have hdl1 : 1 ≤ dl := by rw [hdl]; exact dec_pos _
  have hdl2 : dl ≤ 20 := by
    rw [hdl]
    refine Nat.le_trans (dec_len 18 _ ?_) (by omega)
    exact Nat.lt_of_le_of_lt (Nat.div_le_self _ _) (by omega)
  have HZD := Lib.hid hZd
  have HDL := Lib.hid hdl
  clear hZ hZd hdl hRl
  go_wp2_with fail
  go_ret2
  refine ⟨ret_str (Go.WideShapes.bytes_inj ((show_zero HZD.out).trans ?_)), B3.out⟩
  show _ = amtB _ _ _
  unfold amtB
  rw [if_pos (by omega), Int.natAbs_neg, Int.natAbs_natCast, if_pos rfl]; simp [figB]
set_option maxHeartbeats 4000000 in
set_option maxRecDepth 100000 in
theorem mshow_neg_more (a : Nat) (c : ByteArray) (u : Nat) (hu0 : 0 < u) (hu3 : u ≤ 3) (ha0 : 0 < a) (w : World) (HE : Hid (Env w)) (hu : unitOf c.data.toList = some u) (ha : a ≤ 1125899906842624) (hc : c.size ≤ 100000) : Calls Tryz.prog 10 #[.int .i64 (-(a : Int)), .string c] w (SPost w ⟨(amtB (-(a : Int)) u c.data.toList).toArray⟩ 0) := by
  have HU := Lib.hid (fun W => munit_any c W)
  have HA := Lib.hid (fun W => mamount_any (-(a : Int)) W)
  rw [hu] at HU
  rw [show amtOK (-(a : Int)) = true by unfold amtOK; simp; omega] at HA
  have HI := Lib.hid (itoa_ct HE.out a (by omega))
  obtain ⟨S, hS⟩ : ∃ S, S = decS a := ⟨_, rfl⟩
  have hSd : S.data.toList = Lib.decDigits a := by rw [hS]; rfl
  have hSl : S.size = (Lib.decDigits a).length := by rw [← data_len, hSd]
  have hS1 : 1 ≤ S.size := by rw [hSl]; exact dec_pos a
  have hS2 : S.size ≤ 20 := by
    rw [hSl]
    exact Nat.le_trans (dec_len 18 a (by omega)) (by omega)
  rw [← hS] at HI
  obtain ⟨k, hk⟩ : ∃ k : Nat, k = u + 1 - S.size := ⟨_, rfl⟩
  have hk20 : k ≤ 20 := by omega
  have HR := Lib.hid (fun W => Tryz.strings_Repeat ⟨#[48]⟩ k W (by omega) (by show 1 * k ≤ _; omega))
  obtain ⟨R, hR⟩ : ∃ R : ByteArray, R = ⟨(Lib.repeatL [48] k).toArray⟩ := ⟨_, rfl⟩
  have hRd : R.data.toList = List.replicate k 48 := by rw [hR]; exact rep_one k
  have hRl : R.size = k := by rw [← data_len, hRd]; simp
  rw [show (⟨#[48]⟩ : ByteArray).data.toList = [48] from rfl, ← hR] at HR
  have HSD := Lib.hid hSd
  have HRD := Lib.hid hRd
  have HSL := Lib.hid hSl
  have HK := Lib.hid hk
  clear hu hS hSd hR hRd hSl
  go_enter Tryz.func10, Tryz.ntmps10
  go_wp2_with fail
  refine (HU.out _).mono ?_
  rintro e w1 ⟨rfl, b1⟩
  have B1 := Lib.hid b1
  clear b1
  go_wp2_with fail
  refine (HA.out _).mono ?_
  rintro e w' ⟨rfl, rfl⟩
  go_wp2_with fail
  refine (HI.out.use B1.out).mono ?_
  rintro e w2 ⟨rfl, b2⟩
  have B2 := Lib.hid (B1.out.trans (b2.mono B1.out.size))
  clear b2
  go_wp2_with fail
  rw [show max (((u : Int) + 1) - (S.size : Int)) 0 = (k : Int) by omega]
  refine (HR.out _).mono ?_
  rintro e w3 ⟨rfl, b3⟩
  have B3 := Lib.hid (B2.out.trans (b3.mono B2.out.size))
  clear b3
  go_upto_region 9 with (fail)
  obtain ⟨Z, hZ⟩ : ∃ Z, Z = R ++ S := ⟨_, rfl⟩
  rw [← hZ]
  have hZd : Z.data.toList = Lib.decDigits (a / 10 ^ u) ++ figB a u := by
    rw [hZ, ByteArray.data_append, Array.toList_append, HRD.out, HSD.out, HK.out, HSL.out]
    exact pad_split u a
  obtain ⟨dl, hdl⟩ : ∃ dl, dl = (Lib.decDigits (a / 10 ^ u)).length := ⟨_, rfl⟩
  have hZs : Z.size = dl + u := by rw [← data_len, hZd, List.length_append, figB_len, hdl]
  have hdl1 : 1 ≤ dl := by rw [hdl]; exact dec_pos _
  have hdl2 : dl ≤ 20 := by
    rw [hdl]
    refine Nat.le_trans (dec_len 18 _ ?_) (by omega)
    exact Nat.lt_of_le_of_lt (Nat.div_le_self _ _) (by omega)
  have HZD := Lib.hid hZd
  have HDL := Lib.hid hdl
  clear hZ hZd hdl hRl
  go_upto_region 10 with (fail)
  go_upto_region 11 with (fail)
  go_region
  all_goals
    go_wp2_with fail
    go_ret2
    refine ⟨ret_str (Go.WideShapes.bytes_inj ((show_more HZD.out HDL.out.symm hZs).trans ?_)), B3.out.drew⟩
    show _ = amtB _ _ _
    unfold amtB
    rw [if_pos (by omega), Int.natAbs_neg, Int.natAbs_natCast, if_neg (by omega)]
theorem mshow_any (n : Int) (c : ByteArray) (w : World) (HE : Hid (Env w)) (hc : c.size ≤ 100000) : Calls Tryz.prog 10 #[.int .i64 n, .string c] w fun e w' => ((unitOf c.data.toList = none ∨ amtOK n = false) ∧ SPost w ⟨#[]⟩ 2 e w') ∨ (∃ u, unitOf c.data.toList = some u ∧ amtOK n = true ∧ SPost w ⟨(amtB n u c.data.toList).toArray⟩ 0 e w') := by
  cases hu : unitOf c.data.toList with
  | none => exact (mshow_unit n c w hu).mono fun e w' h => .inl ⟨.inl rfl, h⟩
  | some u =>
    cases ha : amtOK n with
    | false => exact (mshow_amt n c u w hu ha).mono fun e w' h => .inl ⟨.inr rfl, h⟩
    | true =>
      have hb : -1125899906842624 ≤ n ∧ n ≤ 1125899906842624 := by unfold amtOK at ha; simpa using ha
      have hu3 : u ≤ 3 := unit_le hu
      suffices h : Calls Tryz.prog 10 #[.int .i64 n, .string c] w (SPost w ⟨(amtB n u c.data.toList).toArray⟩ 0) from h.mono fun e w' h => .inr ⟨u, rfl, rfl, h⟩
      by_cases hn : n < 0
      · obtain ⟨a, rfl⟩ : ∃ a : Nat, n = -(a : Int) := ⟨n.natAbs, by omega⟩
        rcases Nat.eq_zero_or_pos u with h0 | h0
        · subst h0; exact mshow_neg_zero a c (by omega) w HE hu (by omega) hc
        · exact mshow_neg_more a c u h0 hu3 (by omega) w HE hu (by omega) hc
      · obtain ⟨a, rfl⟩ : ∃ a : Nat, n = (a : Int) := ⟨n.natAbs, by omega⟩
        rcases Nat.eq_zero_or_pos u with h0 | h0
        · subst h0; exact mshow_pos_zero a c w HE hu (by omega) hc
        · exact mshow_pos_more a c u h0 hu3 w HE hu (by omega) hc

end Go.Proofs.YtnikhbdjlipcbaaGreatDoor
