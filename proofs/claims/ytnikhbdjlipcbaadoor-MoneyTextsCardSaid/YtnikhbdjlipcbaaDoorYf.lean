/-
  The program's Show of an amount. Condition: what the package-level variables hold.
-/
import Derived.Test.YtnikhbdjlipcbaaDoorYc
import Derived.Test.YtnikhbdjlipcbaaDoorYb
import Derived.Test.YtnikhbdjlipcbaaDoorShelfb
import Derived.Lib.SmallJoins
import Derived.Lib.AppendIntMem
import Derived.Shelf.Unicode.PredsPay
import Derived.RegionTactic
namespace Go.Proofs.YtnikhbdjlipcbaaDoor
open Go.RowKit Go.Shelf

/-- What the package-level variables hold. -/
structure Env (W : World) : Prop where
  tab : Lib.TabIs Tryd.prog W "internal/strconv.uint64pow10" .u64 Lib.pow10Tab
  rng : ∃ ev, W.cell? ⟨3, 0, none⟩ = some ev ∧ (ev = .nilIface ∨ ∃ te pe, ev = .iface te pe)
theorem cell_belowT {w w' : World} (hb : Below w.heap.size w w') {g : Nat} {v : Value} (hc : w.cell? ⟨g, 0, none⟩ = some v) : w'.cell? ⟨g, 0, none⟩ = some v := ((bcell hb).1 _ _ (cell_lt (a := ⟨g, 0, none⟩) hc)).trans hc
theorem Env.below {w w' : World} (h : Env w) (hb : Below w.heap.size w w') : Env w' := by
  obtain ⟨h2, ⟨e2, h4, h4'⟩⟩ := h
  exact ⟨TabIs_below (show Tryd.prog.globalNamed "internal/strconv.uint64pow10" = some 4 by kernel_rfl) h2 hb, ⟨e2, cell_belowT hb h4, h4'⟩⟩
/-- The digits of a number, as a string. -/
def decS (n : Nat) : ByteArray := ⟨(Lib.decDigits n).toArray⟩
/-- A contract that holds in every later world. -/
def Ct (w : World) (f : FuncId) (args : Array Value) (v : Value) : Prop := ∀ W : World, Below w.heap.size w W → Calls Tryd.prog f args W fun e w' => e = .returned v ∧ Below W.heap.size W w'
theorem Ct.use {w W : World} {f : FuncId} {args : Array Value} {v : Value} (h : Ct w f args v) (hb : Below w.heap.size w W) : Calls Tryd.prog f args W fun e w' => e = .returned v ∧ Below W.heap.size W w' := h W hb
theorem itoa_ct {w : World} (h : Env w) (n : Nat) (h1 : n ≤ 9223372036854775807) : Ct w 33 #[.int .i64 (n : Int)] (.string (decS n)) := fun W hW =>
  (Tryd.strconv_Itoa (n : Int) (by omega) (by omega) W (h.below hW).tab).mono fun _ _ ⟨he, _, _, hw⟩ => ⟨by rw [he]; unfold decS Lib.itoa; rw [if_neg (by omega)]; rfl, hw ▸ Lib.below_grow _ _ (Nat.le_refl _) _ _⟩

def amtOK (n : Int) : Bool := decide (-1125899906842624 ≤ n ∧ n ≤ 1125899906842624)
set_option maxHeartbeats 4000000 in
set_option maxRecDepth 100000 in
theorem mamount_any (n : Int) (w : World) : Calls Tryd.prog 24 #[.int .i64 n] w (RetB w (amtOK n)) := by
  by_cases h1 : -1125899906842624 ≤ n
  · by_cases h2 : n ≤ 1125899906842624
    · have e : amtOK n = true := by unfold amtOK; simp; omega
      rw [e]
      clear e
      go_enter Tryd.func24, Tryd.ntmps24
      go_wp2
      go_ret
      exact ⟨ret_bool (by first | rfl | (simp; omega)), rfl⟩
    · have e : amtOK n = false := by unfold amtOK; simp; omega
      rw [e]
      clear e
      go_enter Tryd.func24, Tryd.ntmps24
      go_wp2
      go_ret
      exact ⟨ret_bool (by first | rfl | (simp; omega)), rfl⟩
  · have e : amtOK n = false := by unfold amtOK; simp; omega
    rw [e]
    clear e
    go_enter Tryd.func24, Tryd.ntmps24
    go_wp2
    go_ret
    exact ⟨ret_bool (by first | rfl | (simp; omega)), rfl⟩
set_option maxHeartbeats 4000000 in
set_option maxRecDepth 100000 in
theorem ramount_any (n : Int) (w : World) : Calls Tryd.prog 31 #[.int .i64 n] w (RetB w (amtOK n)) := by
  by_cases h1 : -1125899906842624 ≤ n
  · by_cases h2 : n ≤ 1125899906842624
    · have e : amtOK n = true := by unfold amtOK; simp; omega
      rw [e]
      clear e
      go_enter Tryd.func31, Tryd.ntmps31
      go_wp2
      go_ret
      exact ⟨ret_bool (by first | rfl | (simp; omega)), rfl⟩
    · have e : amtOK n = false := by unfold amtOK; simp; omega
      rw [e]
      clear e
      go_enter Tryd.func31, Tryd.ntmps31
      go_wp2
      go_ret
      exact ⟨ret_bool (by first | rfl | (simp; omega)), rfl⟩
  · have e : amtOK n = false := by unfold amtOK; simp; omega
    rw [e]
    clear e
    go_enter Tryd.func31, Tryd.ntmps31
    go_wp2
    go_ret
    exact ⟨ret_bool (by first | rfl | (simp; omega)), rfl⟩
theorem unit_le {l : List UInt8} {u : Nat} (h : unitOf l = some u) : u ≤ 3 := by
  unfold unitOf at h
  split at h
  · have := Option.some.inj h
    subst this
    unfold spU
    repeat' split
    all_goals decide
  · cases h
theorem rep_one (k : Nat) : (⟨(Lib.repeatL [48] k).toArray⟩ : ByteArray).data.toList = List.replicate k 48 := by
  show Lib.repeatL [48] k = _
  induction k with
  | zero => rfl
  | succ k ih => rw [List.replicate_succ, ← ih]; rfl
theorem dec_len (k : Nat) : ∀ u, u < 10 ^ (k + 1) → (Lib.decDigits u).length ≤ k + 1 := by
  induction k with
  | zero =>
    intro u hu
    rw [Lib.decDigits, dif_pos (by simpa using hu)]; simp
  | succ k ih =>
    intro u hu
    rw [Lib.decDigits]
    split
    · simp
    · have := ih (u / 10) (by rw [Nat.pow_succ] at hu; omega)
      simp; omega
theorem show_zero {Z sg c : ByteArray} {D : List UInt8} (hz : Z.data.toList = D) : (sg ++ Z ++ ⟨#[32]⟩ ++ c).data.toList = sg.data.toList ++ (D ++ []) ++ 32 :: c.data.toList := by
  simp [hz]
theorem show_more {Z sg c : ByteArray} {D F : List UInt8} {dl zs : Nat} (hz : Z.data.toList = D ++ F) (hd : D.length = dl) (hzs : Z.size = zs) : (sg ++ (Z.extract 0 dl ++ ⟨#[46]⟩ ++ Z.extract dl zs) ++ ⟨#[32]⟩ ++ c).data.toList = sg.data.toList ++ (D ++ 46 :: F) ++ 32 :: c.data.toList := by
  have e1 : (Z.extract 0 dl).data.toList = D := by rw [ext_data, hz]; simp [← hd]
  have e2 : (Z.extract dl zs).data.toList = F := by
    subst hzs
    rw [ext_data, List.take_of_length_le (by simp), hz]; simp [← hd]
  simp only [ByteArray.data_append, Array.toList_append, e1, e2]
  simp
theorem ret_str {x y : ByteArray} {n : Int} (h : x = y) : Ending.returned (.tuple #[.string x, .int .i64 n]) = .returned (.tuple #[.string y, .int .i64 n]) := by rw [h]
def SPost (w : World) (s : ByteArray) (n : Int) (e : Ending) (w' : World) : Prop := e = .returned (.tuple #[.string s, .int .i64 n]) ∧ Below w.heap.size w w'
set_option maxHeartbeats 4000000 in
set_option maxRecDepth 100000 in
theorem mshow_unit (n : Int) (c : ByteArray) (w : World) (hu : unitOf c.data.toList = none) : Calls Tryd.prog 11 #[.int .i64 n, .string c] w (SPost w ⟨#[]⟩ 2) := by
  have HU := Lib.hid (fun W => munit_any c W)
  rw [hu] at HU
  clear hu
  go_enter Tryd.func11, Tryd.ntmps11
  go_wp2_with fail
  refine (HU.out _).mono ?_
  rintro e w1 ⟨rfl, b1⟩
  have B1 := Lib.hid b1
  clear b1
  go_wp2_with fail
  go_ret2
  exact ⟨rfl, B1.out⟩
set_option maxHeartbeats 4000000 in
set_option maxRecDepth 100000 in
theorem mshow_amt (n : Int) (c : ByteArray) (u : Nat) (w : World) (hu : unitOf c.data.toList = some u) (ha : amtOK n = false) : Calls Tryd.prog 11 #[.int .i64 n, .string c] w (SPost w ⟨#[]⟩ 2) := by
  have HU := Lib.hid (fun W => munit_any c W)
  have HA := Lib.hid (fun W => mamount_any n W)
  rw [hu] at HU
  rw [ha] at HA
  clear hu ha
  go_enter Tryd.func11, Tryd.ntmps11
  go_wp2_with fail
  refine (HU.out _).mono ?_
  rintro e w1 ⟨rfl, b1⟩
  have B1 := Lib.hid b1
  clear b1
  go_wp2_with fail
  refine (HA.out _).mono ?_
  rintro e w' ⟨rfl, rfl⟩
  go_wp2_with fail
  go_ret2
  exact ⟨rfl, B1.out⟩
set_option maxHeartbeats 4000000 in
set_option maxRecDepth 100000 in
theorem mshow_pos_zero (a : Nat) (c : ByteArray) (w : World) (HE : Hid (Env w)) (hu : unitOf c.data.toList = some 0) (ha : a ≤ 1125899906842624) (hc : c.size ≤ 100000) : Calls Tryd.prog 11 #[.int .i64 (a : Int), .string c] w (SPost w ⟨(amtB (a : Int) 0 c.data.toList).toArray⟩ 0) := by
  have HU := Lib.hid (fun W => munit_any c W)
  have HA := Lib.hid (fun W => mamount_any (a : Int) W)
  rw [hu] at HU
  rw [show amtOK (a : Int) = true by unfold amtOK; simp; omega] at HA
  have HI := Lib.hid (itoa_ct HE.out a (by omega))
  obtain ⟨S, hS⟩ : ∃ S, S = decS a := ⟨_, rfl⟩
  have hSd : S.data.toList = Lib.decDigits a := by rw [hS]; rfl
  have hSl : S.size = (Lib.decDigits a).length := by rw [← data_len, hSd]
  have hS1 : 1 ≤ S.size := by rw [hSl]; exact dec_pos a
  have hS2 : S.size ≤ 20 := by
    rw [hSl]
    exact Nat.le_trans (dec_len 18 a (by omega)) (by omega)
  rw [← hS] at HI
  obtain ⟨k, hk⟩ : ∃ k : Nat, k = 0 + 1 - S.size := ⟨_, rfl⟩
  have hk20 : k ≤ 20 := by omega
  have HR := Lib.hid (fun W => Tryd.strings_Repeat ⟨#[48]⟩ k W (by omega) (by show 1 * k ≤ _; omega))
  obtain ⟨R, hR⟩ : ∃ R : ByteArray, R = ⟨(Lib.repeatL [48] k).toArray⟩ := ⟨_, rfl⟩
  have hRd : R.data.toList = List.replicate k 48 := by rw [hR]; exact rep_one k
  have hRl : R.size = k := by rw [← data_len, hRd]; simp
  rw [show (⟨#[48]⟩ : ByteArray).data.toList = [48] from rfl, ← hR] at HR
  have HSD := Lib.hid hSd
  have HRD := Lib.hid hRd
  have HSL := Lib.hid hSl
  have HK := Lib.hid hk
  clear hu hS hSd hR hRd hSl
  go_enter Tryd.func11, Tryd.ntmps11
  go_wp2_with fail
  refine (HU.out _).mono ?_
  rintro e w1 ⟨rfl, b1⟩
  have B1 := Lib.hid b1
  clear b1
  go_wp2_with fail
  refine (HA.out _).mono ?_
  rintro e w' ⟨rfl, rfl⟩
  go_wp2_with fail
  refine (HI.out.use B1.out).mono ?_
  rintro e w2 ⟨rfl, b2⟩
  have B2 := Lib.hid (B1.out.trans (b2.mono B1.out.size))
  clear b2
  go_wp2_with fail
  rw [show max (1 - (S.size : Int)) 0 = (k : Int) by omega]
  refine (HR.out _).mono ?_
  rintro e w3 ⟨rfl, b3⟩
  have B3 := Lib.hid (B2.out.trans (b3.mono B2.out.size))
  clear b3
  go_upto_region 9 with (fail)
  obtain ⟨Z, hZ⟩ : ∃ Z, Z = R ++ S := ⟨_, rfl⟩
  rw [← hZ]
  have hZd : Z.data.toList = Lib.decDigits (a / 10 ^ 0) ++ figB a 0 := by
    rw [hZ, ByteArray.data_append, Array.toList_append, HRD.out, HSD.out, HK.out, HSL.out]
    exact pad_split 0 a
  obtain ⟨dl, hdl⟩ : ∃ dl, dl = (Lib.decDigits (a / 10 ^ 0)).length := ⟨_, rfl⟩
  have hZs : Z.size = dl + 0 := by rw [← data_len, hZd, List.length_append, figB_len, hdl]
  have hdl1 : 1 ≤ dl := by rw [hdl]; exact dec_pos _
  have hdl2 : dl ≤ 20 := by
    rw [hdl]
    refine Nat.le_trans (dec_len 18 _ ?_) (by omega)
    exact Nat.lt_of_le_of_lt (Nat.div_le_self _ _) (by omega)
  have HZD := Lib.hid hZd
  have HDL := Lib.hid hdl
  clear hZ hZd hdl hRl
  go_wp2_with fail
  go_ret2
  refine ⟨ret_str (Go.WideShapes.bytes_inj ((show_zero HZD.out).trans ?_)), B3.out⟩
  show _ = amtB _ _ _
  unfold amtB
  rw [if_neg (by omega), Int.natAbs_natCast, if_pos rfl]; simp [figB]
set_option maxHeartbeats 4000000 in
set_option maxRecDepth 100000 in
theorem mshow_pos_more (a : Nat) (c : ByteArray) (u : Nat) (hu0 : 0 < u) (hu3 : u ≤ 3) (w : World) (HE : Hid (Env w)) (hu : unitOf c.data.toList = some u) (ha : a ≤ 1125899906842624) (hc : c.size ≤ 100000) : Calls Tryd.prog 11 #[.int .i64 (a : Int), .string c] w (SPost w ⟨(amtB (a : Int) u c.data.toList).toArray⟩ 0) := by
  have HU := Lib.hid (fun W => munit_any c W)
  have HA := Lib.hid (fun W => mamount_any (a : Int) W)
  rw [hu] at HU
  rw [show amtOK (a : Int) = true by unfold amtOK; simp; omega] at HA
  have HI := Lib.hid (itoa_ct HE.out a (by omega))
  obtain ⟨S, hS⟩ : ∃ S, S = decS a := ⟨_, rfl⟩
  have hSd : S.data.toList = Lib.decDigits a := by rw [hS]; rfl
  have hSl : S.size = (Lib.decDigits a).length := by rw [← data_len, hSd]
  have hS1 : 1 ≤ S.size := by rw [hSl]; exact dec_pos a
  have hS2 : S.size ≤ 20 := by
    rw [hSl]
    exact Nat.le_trans (dec_len 18 a (by omega)) (by omega)
  rw [← hS] at HI
  obtain ⟨k, hk⟩ : ∃ k : Nat, k = u + 1 - S.size := ⟨_, rfl⟩
  have hk20 : k ≤ 20 := by omega
  have HR := Lib.hid (fun W => Tryd.strings_Repeat ⟨#[48]⟩ k W (by omega) (by show 1 * k ≤ _; omega))
  obtain ⟨R, hR⟩ : ∃ R : ByteArray, R = ⟨(Lib.repeatL [48] k).toArray⟩ := ⟨_, rfl⟩
  have hRd : R.data.toList = List.replicate k 48 := by rw [hR]; exact rep_one k
  have hRl : R.size = k := by rw [← data_len, hRd]; simp
  rw [show (⟨#[48]⟩ : ByteArray).data.toList = [48] from rfl, ← hR] at HR
  have HSD := Lib.hid hSd
  have HRD := Lib.hid hRd
  have HSL := Lib.hid hSl
  have HK := Lib.hid hk
  clear hu hS hSd hR hRd hSl
  go_enter Tryd.func11, Tryd.ntmps11
  go_wp2_with fail
  refine (HU.out _).mono ?_
  rintro e w1 ⟨rfl, b1⟩
  have B1 := Lib.hid b1
  clear b1
  go_wp2_with fail
  refine (HA.out _).mono ?_
  rintro e w' ⟨rfl, rfl⟩
  go_wp2_with fail
  refine (HI.out.use B1.out).mono ?_
  rintro e w2 ⟨rfl, b2⟩
  have B2 := Lib.hid (B1.out.trans (b2.mono B1.out.size))
  clear b2
  go_wp2_with fail
  rw [show max (((u : Int) + 1) - (S.size : Int)) 0 = (k : Int) by omega]
  refine (HR.out _).mono ?_
  rintro e w3 ⟨rfl, b3⟩
  have B3 := Lib.hid (B2.out.trans (b3.mono B2.out.size))
  clear b3
  go_upto_region 9 with (fail)
  obtain ⟨Z, hZ⟩ : ∃ Z, Z = R ++ S := ⟨_, rfl⟩
  rw [← hZ]
  have hZd : Z.data.toList = Lib.decDigits (a / 10 ^ u) ++ figB a u := by
    rw [hZ, ByteArray.data_append, Array.toList_append, HRD.out, HSD.out, HK.out, HSL.out]
    exact pad_split u a
  obtain ⟨dl, hdl⟩ : ∃ dl, dl = (Lib.decDigits (a / 10 ^ u)).length := ⟨_, rfl⟩
  have hZs : Z.size = dl + u := by rw [← data_len, hZd, List.length_append, figB_len, hdl]
  have hdl1 : 1 ≤ dl := by rw [hdl]; exact dec_pos _
  have hdl2 : dl ≤ 20 := by
    rw [hdl]
    refine Nat.le_trans (dec_len 18 _ ?_) (by omega)
    exact Nat.lt_of_le_of_lt (Nat.div_le_self _ _) (by omega)
  have HZD := Lib.hid hZd
  have HDL := Lib.hid hdl
  clear hZ hZd hdl hRl
  go_upto_region 10 with (fail)
  go_upto_region 11 with (fail)
  go_region
  all_goals
    go_wp2_with fail
    go_ret2
    refine ⟨ret_str (Go.WideShapes.bytes_inj ((show_more HZD.out HDL.out.symm hZs).trans ?_)), B3.out.drew⟩
    show _ = amtB _ _ _
    unfold amtB
    rw [if_neg (by omega), Int.natAbs_natCast, if_neg (by omega)]
set_option maxHeartbeats 4000000 in
set_option maxRecDepth 100000 in
theorem mshow_neg_zero (a : Nat) (c : ByteArray) (ha0 : 0 < a) (w : World) (HE : Hid (Env w)) (hu : unitOf c.data.toList = some 0) (ha : a ≤ 1125899906842624) (hc : c.size ≤ 100000) : Calls Tryd.prog 11 #[.int .i64 (-(a : Int)), .string c] w (SPost w ⟨(amtB (-(a : Int)) 0 c.data.toList).toArray⟩ 0) := by
  have HU := Lib.hid (fun W => munit_any c W)
  have HA := Lib.hid (fun W => mamount_any (-(a : Int)) W)
  rw [hu] at HU
  rw [show amtOK (-(a : Int)) = true by unfold amtOK; simp; omega] at HA
  have HI := Lib.hid (itoa_ct HE.out a (by omega))
  obtain ⟨S, hS⟩ : ∃ S, S = decS a := ⟨_, rfl⟩
  have hSd : S.data.toList = Lib.decDigits a := by rw [hS]; rfl
  have hSl : S.size = (Lib.decDigits a).length := by rw [← data_len, hSd]
  have hS1 : 1 ≤ S.size := by rw [hSl]; exact dec_pos a
  have hS2 : S.size ≤ 20 := by
    rw [hSl]
    exact Nat.le_trans (dec_len 18 a (by omega)) (by omega)
  rw [← hS] at HI
  obtain ⟨k, hk⟩ : ∃ k : Nat, k = 0 + 1 - S.size := ⟨_, rfl⟩
  have hk20 : k ≤ 20 := by omega
  have HR := Lib.hid (fun W => Tryd.strings_Repeat ⟨#[48]⟩ k W (by omega) (by show 1 * k ≤ _; omega))
  obtain ⟨R, hR⟩ : ∃ R : ByteArray, R = ⟨(Lib.repeatL [48] k).toArray⟩ := ⟨_, rfl⟩
  have hRd : R.data.toList = List.replicate k 48 := by rw [hR]; exact rep_one k
  have hRl : R.size = k := by rw [← data_len, hRd]; simp
  rw [show (⟨#[48]⟩ : ByteArray).data.toList = [48] from rfl, ← hR] at HR
  have HSD := Lib.hid hSd
  have HRD := Lib.hid hRd
  have HSL := Lib.hid hSl
  have HK := Lib.hid hk
  clear hu hS hSd hR hRd hSl
  go_enter Tryd.func11, Tryd.ntmps11
  go_wp2_with fail
  refine (HU.out _).mono ?_
  rintro e w1 ⟨rfl, b1⟩
  have B1 := Lib.hid b1
  clear b1
  go_wp2_with fail
  refine (HA.out _).mono ?_
  rintro e w' ⟨rfl, rfl⟩
  go_wp2_with fail
  refine (HI.out.use B1.out).mono ?_
  rintro e w2 ⟨rfl, b2⟩
  have B2 := Lib.hid (B1.out.trans (b2.mono B1.out.size))
  clear b2
  go_wp2_with fail
  rw [show max (1 - (S.size : Int)) 0 = (k : Int) by omega]
  refine (HR.out _).mono ?_
  rintro e w3 ⟨rfl, b3⟩
  have B3 := Lib.hid (B2.out.trans (b3.mono B2.out.size))
  clear b3
  go_upto_region 9 with (fail)
  obtain ⟨Z, hZ⟩ : ∃ Z, Z = R ++ S := ⟨_, rfl⟩
  rw [← hZ]
  have hZd : Z.data.toList = Lib.decDigits (a / 10 ^ 0) ++ figB a 0 := by
    rw [hZ, ByteArray.data_append, Array.toList_append, HRD.out, HSD.out, HK.out, HSL.out]
    exact pad_split 0 a
  obtain ⟨dl, hdl⟩ : ∃ dl, dl = (Lib.decDigits (a / 10 ^ 0)).length := ⟨_, rfl⟩
  have hZs : Z.size = dl + 0 := by rw [← data_len, hZd, List.length_append, figB_len, hdl]
  have hdl1 : 1 ≤ dl := by rw [hdl]; exact dec_pos _
  have hdl2 : dl ≤ 20 := by
    rw [hdl]
    refine Nat.le_trans (dec_len 18 _ ?_) (by omega)
    exact Nat.lt_of_le_of_lt (Nat.div_le_self _ _) (by omega)
  have HZD := Lib.hid hZd
  have HDL := Lib.hid hdl
  clear hZ hZd hdl hRl
  go_wp2_with fail
  go_ret2
  refine ⟨ret_str (Go.WideShapes.bytes_inj ((show_zero HZD.out).trans ?_)), B3.out⟩
  show _ = amtB _ _ _
  unfold amtB
  rw [if_pos (by omega), Int.natAbs_neg, Int.natAbs_natCast, if_pos rfl]; simp [figB]
set_option maxHeartbeats 4000000 in
set_option maxRecDepth 100000 in
theorem mshow_neg_more (a : Nat) (c : ByteArray) (u : Nat) (hu0 : 0 < u) (hu3 : u ≤ 3) (ha0 : 0 < a) (w : World) (HE : Hid (Env w)) (hu : unitOf c.data.toList = some u) (ha : a ≤ 1125899906842624) (hc : c.size ≤ 100000) : Calls Tryd.prog 11 #[.int .i64 (-(a : Int)), .string c] w (SPost w ⟨(amtB (-(a : Int)) u c.data.toList).toArray⟩ 0) := by
  have HU := Lib.hid (fun W => munit_any c W)
  have HA := Lib.hid (fun W => mamount_any (-(a : Int)) W)
  rw [hu] at HU
  rw [show amtOK (-(a : Int)) = true by unfold amtOK; simp; omega] at HA
  have HI := Lib.hid (itoa_ct HE.out a (by omega))
  obtain ⟨S, hS⟩ : ∃ S, S = decS a := ⟨_, rfl⟩
  have hSd : S.data.toList = Lib.decDigits a := by rw [hS]; rfl
  have hSl : S.size = (Lib.decDigits a).length := by rw [← data_len, hSd]
  have hS1 : 1 ≤ S.size := by rw [hSl]; exact dec_pos a
  have hS2 : S.size ≤ 20 := by
    rw [hSl]
    exact Nat.le_trans (dec_len 18 a (by omega)) (by omega)
  rw [← hS] at HI
  obtain ⟨k, hk⟩ : ∃ k : Nat, k = u + 1 - S.size := ⟨_, rfl⟩
  have hk20 : k ≤ 20 := by omega
  have HR := Lib.hid (fun W => Tryd.strings_Repeat ⟨#[48]⟩ k W (by omega) (by show 1 * k ≤ _; omega))
  obtain ⟨R, hR⟩ : ∃ R : ByteArray, R = ⟨(Lib.repeatL [48] k).toArray⟩ := ⟨_, rfl⟩
  have hRd : R.data.toList = List.replicate k 48 := by rw [hR]; exact rep_one k
  have hRl : R.size = k := by rw [← data_len, hRd]; simp
  rw [show (⟨#[48]⟩ : ByteArray).data.toList = [48] from rfl, ← hR] at HR
  have HSD := Lib.hid hSd
  have HRD := Lib.hid hRd
  have HSL := Lib.hid hSl
  have HK := Lib.hid hk
  clear hu hS hSd hR hRd hSl
  go_enter Tryd.func11, Tryd.ntmps11
  go_wp2_with fail
  refine (HU.out _).mono ?_
  rintro e w1 ⟨rfl, b1⟩
  have B1 := Lib.hid b1
  clear b1
  go_wp2_with fail
  refine (HA.out _).mono ?_
  rintro e w' ⟨rfl, rfl⟩
  go_wp2_with fail
  refine (HI.out.use B1.out).mono ?_
  rintro e w2 ⟨rfl, b2⟩
  have B2 := Lib.hid (B1.out.trans (b2.mono B1.out.size))
  clear b2
  go_wp2_with fail
  rw [show max (((u : Int) + 1) - (S.size : Int)) 0 = (k : Int) by omega]
  refine (HR.out _).mono ?_
  rintro e w3 ⟨rfl, b3⟩
  have B3 := Lib.hid (B2.out.trans (b3.mono B2.out.size))
  clear b3
  go_upto_region 9 with (fail)
  obtain ⟨Z, hZ⟩ : ∃ Z, Z = R ++ S := ⟨_, rfl⟩
  rw [← hZ]
  have hZd : Z.data.toList = Lib.decDigits (a / 10 ^ u) ++ figB a u := by
    rw [hZ, ByteArray.data_append, Array.toList_append, HRD.out, HSD.out, HK.out, HSL.out]
    exact pad_split u a
  obtain ⟨dl, hdl⟩ : ∃ dl, dl = (Lib.decDigits (a / 10 ^ u)).length := ⟨_, rfl⟩
  have hZs : Z.size = dl + u := by rw [← data_len, hZd, List.length_append, figB_len, hdl]
  have hdl1 : 1 ≤ dl := by rw [hdl]; exact dec_pos _
  have hdl2 : dl ≤ 20 := by
    rw [hdl]
    refine Nat.le_trans (dec_len 18 _ ?_) (by omega)
    exact Nat.lt_of_le_of_lt (Nat.div_le_self _ _) (by omega)
  have HZD := Lib.hid hZd
  have HDL := Lib.hid hdl
  clear hZ hZd hdl hRl
  go_upto_region 10 with (fail)
  go_upto_region 11 with (fail)
  go_region
  all_goals
    go_wp2_with fail
    go_ret2
    refine ⟨ret_str (Go.WideShapes.bytes_inj ((show_more HZD.out HDL.out.symm hZs).trans ?_)), B3.out.drew⟩
    show _ = amtB _ _ _
    unfold amtB
    rw [if_pos (by omega), Int.natAbs_neg, Int.natAbs_natCast, if_neg (by omega)]
theorem mshow_any (n : Int) (c : ByteArray) (w : World) (HE : Hid (Env w)) (hc : c.size ≤ 100000) : Calls Tryd.prog 11 #[.int .i64 n, .string c] w fun e w' => ((unitOf c.data.toList = none ∨ amtOK n = false) ∧ SPost w ⟨#[]⟩ 2 e w') ∨ (∃ u, unitOf c.data.toList = some u ∧ amtOK n = true ∧ SPost w ⟨(amtB n u c.data.toList).toArray⟩ 0 e w') := by
  cases hu : unitOf c.data.toList with
  | none => exact (mshow_unit n c w hu).mono fun e w' h => .inl ⟨.inl rfl, h⟩
  | some u =>
    cases ha : amtOK n with
    | false => exact (mshow_amt n c u w hu ha).mono fun e w' h => .inl ⟨.inr rfl, h⟩
    | true =>
      have hb : -1125899906842624 ≤ n ∧ n ≤ 1125899906842624 := by unfold amtOK at ha; simpa using ha
      have hu3 : u ≤ 3 := unit_le hu
      suffices h : Calls Tryd.prog 11 #[.int .i64 n, .string c] w (SPost w ⟨(amtB n u c.data.toList).toArray⟩ 0) from h.mono fun e w' h => .inr ⟨u, rfl, rfl, h⟩
      by_cases hn : n < 0
      · obtain ⟨a, rfl⟩ : ∃ a : Nat, n = -(a : Int) := ⟨n.natAbs, by omega⟩
        rcases Nat.eq_zero_or_pos u with h0 | h0
        · subst h0; exact mshow_neg_zero a c (by omega) w HE hu (by omega) hc
        · exact mshow_neg_more a c u h0 hu3 (by omega) w HE hu (by omega) hc
      · obtain ⟨a, rfl⟩ : ∃ a : Nat, n = (a : Int) := ⟨n.natAbs, by omega⟩
        rcases Nat.eq_zero_or_pos u with h0 | h0
        · subst h0; exact mshow_pos_zero a c w HE hu (by omega) hc
        · exact mshow_pos_more a c u h0 hu3 w HE hu (by omega) hc

end Go.Proofs.YtnikhbdjlipcbaaDoor
