/-
  The reference's event.Parse, kind by kind. Condition: the contracts of the callees, as hypotheses.
-/
import Derived.Test.YtcfgpojogomkhaaGreatDoorRg0
namespace Go.Proofs.YtcfgpojogomkhaaGreatDoor
open Go.RowKit

set_option maxHeartbeats 8000000 in
set_option maxRecDepth 100000 in
theorem rparse_no0 (s x0 x1 x2 : ByteArray) (l : List Value) (n : Nat) (v1 v2 : Int) (w : World)
    (L0 : l[0]? = some (.string x0))
    (L1 : l[1]? = some (.string x1))
    (L2 : l[2]? = some (.string x2))
    (hn4 : 4 ≤ n)
    (t1 : (x0.toList == [102, 105, 120]) = false)
    (t2 : (x0.toList == [99, 104, 111, 105, 99, 101]) = false)
    (t3 : (x0.toList == [118, 97, 108, 117, 101]) = false)
    (t4 : (x0.toList == [115, 105, 100, 101]) = false)
    (t5 : (x0.toList == [99, 97, 110, 99, 101, 108]) = false)
    (HC : Hid (∀ W, Calls Tryz.prog 34 #[.string s] W (CutN W n l)))
    (HC1 : Hid (Ca 35 #[.string x1] (.int .i64 v1)))
    (HC2 : Hid (Ca 35 #[.string x2] (.int .i64 v2))) :
    Calls Tryz.prog 13 #[.string s] w (RpP w zEv false) := by
  go_enter Tryz.func13, Tryz.ntmps13
  go_wp2_with fail
  refine (HC.out _).mono ?_
  rintro e wb ⟨r, c, rfl, hr, hrow, hb⟩
  have hz : wb.heap[w.heap.size]? = some (.cells #[.int .u8 0, .int .i64 0, .int .i64 0, .int .i64 0, .int .i64 0, .string ⟨#[]⟩, .string ⟨#[]⟩, .string ⟨#[]⟩, .bool false] 24) := (objNext (B := 0) ⟨Nat.zero_le _, objHere _ _⟩ hb).2
  have B1 : Hid (Below w.heap.size w wb) := (own_below _ _).trans (hb.mono (by simp))
  have hr0 : w.heap.size < r := Nat.lt_of_lt_of_le (by simp) hr
  have HZ := Lib.hid hz
  have HROW := Lib.hid hrow
  have hrl : r < wb.heap.size := hrow.lt
  have e1 : wb.cell? ⟨r, 1, none⟩ = some (.string x1) := (hrow.cell (List.getElem?_eq_some_iff.1 L1).1).trans L1
  have e2 : wb.cell? ⟨r, 2, none⟩ = some (.string x2) := (hrow.cell (List.getElem?_eq_some_iff.1 L2).1).trans L2
  clear hb hz hrow hr
  go_upto_region 4 with (fail)
  go_cut [5] (fun s5 wx => ∃ q, s5 = .pointer (some ⟨q, 0, none⟩) ∧ wb.heap.size ≤ q ∧ wx.heap[q]? = some (.cells #[.int .u8 0, .int .i64 v1, .int .i64 v2, .int .i64 0, .int .i64 0, .string ⟨#[]⟩, .string ⟨#[]⟩, .string ⟨#[]⟩, .bool false] 24) ∧ Below wb.heap.size wb wx)
  case first =>
    have HALL : Hid (∀ W : World, Below wb.heap.size wb W → W.cell? ⟨r, 1, none⟩ = some (.string x1) ∧ W.cell? ⟨r, 2, none⟩ = some (.string x2) ∧ Below wb.heap.size wb W) := fun W h => ⟨((bcell h).1 _ _ hrl).trans e1, ((bcell h).1 _ _ hrl).trans e2, h⟩
    have HNXT : Hid (∀ W W' : World, (W.cell? ⟨r, 1, none⟩ = some (.string x1) ∧ W.cell? ⟨r, 2, none⟩ = some (.string x2) ∧ Below wb.heap.size wb W) → Below W.heap.size W W' → Below wb.heap.size wb W') := fun W W' h h' => h.2.2.trans (h'.mono h.2.2.size)
    have HALC : Hid (∀ (W : World) (O : Obj), (W.cell? ⟨r, 1, none⟩ = some (.string x1) ∧ W.cell? ⟨r, 2, none⟩ = some (.string x2) ∧ Below wb.heap.size wb W) → Below wb.heap.size wb (W.alloc O)) := fun W O h => h.2.2.alloc h.2.2.size O
    have h1n : ¬((n : Int) ≤ 1) := by omega
    have h2n : ¬((n : Int) ≤ 2) := by omega
    have HA0 : Hid (∀ O : Obj, Below wb.heap.size wb (wb.alloc O).drew) := fun O => (own_below wb O).drew
    have HD0 : Hid (Below wb.heap.size wb wb.drew) := (Below.refl _ wb).drew
    clear HZ
    go_region_held (fun W => W.cell? ⟨r, 1, none⟩ = some (.string x1) ∧ W.cell? ⟨r, 2, none⟩ = some (.string x2) ∧ Below wb.heap.size wb W)
      ((first | with_reducible exact HALL.out _ (put9_below bn Z.1 _ _ _ _ _ _ _ _ _) | with_reducible exact HALL.out _ bn | with_reducible exact HALL.out _ (HALC.out _ _ (by assumption)) | with_reducible exact HALL.out _ HD0.out | with_reducible exact HALL.out _ (HA0.out _) | with_reducible exact HALL.out _ (Below.alloc bn (Below.size bn) _)))
      ((go_at_call 35; go_must ((first | with_reducible refine (Ca.at HC1.out _).mono ?_ | with_reducible refine (Ca.at HC2.out _).mono ?_); rintro e wf ⟨rfl, bf⟩; have bn := HNXT.out _ _ (by assumption) bf; (first | (with_reducible have Z := objNext Z bf) | (with_reducible have Z := objNewD bf) | (with_reducible have Z := objNew bo bf) | skip); have bo := bn; (first | (obtain ⟨z0, z1, z2, z3, z4, z5, z6, z7, z8⟩ := zcells Z.2; have zf := zfrozen Z.2) | skip))))
    all_goals
      go_wp2_with fail
      go_meet
      first
        | exact ⟨_, rfl, Z.1, put9_heap Z.2 _ _ _ _ _ _ _ _ _, put9_below bn Z.1 _ _ _ _ _ _ _ _ _⟩
        | exact ⟨_, rfl, bn.size, objHere _ _, bn.alloc bn.size _⟩
  case rest =>
  obtain ⟨wd, rfl⟩ : ∃ wd : World, wd = wc := ⟨_, rfl⟩
  obtain ⟨q, rfl, hq, ho, bq⟩ := hcut
  have T0 : Hid (TwoB w q r l #[.int .u8 0, .int .i64 v1, .int .i64 v2, .int .i64 0, .int .i64 0, .string ⟨#[]⟩, .string ⟨#[]⟩, .string ⟨#[]⟩, .bool false] wd) := ⟨by rw [bq.block _ (Nat.lt_trans hr0 hrl)]; exact HZ.out, ho, HROW.out.below bq hrl, B1.out.trans (bq.mono B1.out.size), by omega, by omega, hr0⟩
  clear ho bq hq HZ HROW B1 e1 e2
  have hrq : r ≠ q := Ne.symm T0.out.qr
  have hqr := T0.out.qr
  have g0 : ¬((n : Int) ≤ 0) := by omega
  obtain ⟨o0, o1, o2, o3, o4, o5, o6, o7, o8⟩ := zcells T0.out.z
  have of := zfrozen T0.out.z
  have e0 := (T0.out.row.cell (List.getElem?_eq_some_iff.1 L0).1).trans L0
  go_wp2_with fail
  refine bodyPost_ret (results_row_tmp rfl _ _ w.heap.size 24 _ _ rfl (put9_heap T0.out.z _ _ _ _ _ _ _ _ _) Tryz.underlying24 rfl rfl) rfl ?_
  exact ⟨put9_below T0.out.h (Nat.le_refl _) _ _ _ _ _ _ _ _ _, .inr ⟨rfl, rfl⟩⟩

set_option maxHeartbeats 8000000 in
set_option maxRecDepth 100000 in
theorem rparse_no1 (s x0 x1 x2 : ByteArray) (l : List Value) (n : Nat) (v1 v2 : Int) (w : World)
    (L0 : l[0]? = some (.string x0))
    (L1 : l[1]? = some (.string x1))
    (L2 : l[2]? = some (.string x2))
    (hn4 : 4 ≤ n)
    (t1 : (x0.toList == [102, 105, 120]) = true)
    (t2 : (x0.toList == [99, 104, 111, 105, 99, 101]) = false)
    (t3 : (x0.toList == [118, 97, 108, 117, 101]) = false)
    (t4 : (x0.toList == [115, 105, 100, 101]) = false)
    (t5 : (x0.toList == [99, 97, 110, 99, 101, 108]) = false)
    (hn : n ≠ 6)
    (HC : Hid (∀ W, Calls Tryz.prog 34 #[.string s] W (CutN W n l)))
    (HC1 : Hid (Ca 35 #[.string x1] (.int .i64 v1)))
    (HC2 : Hid (Ca 35 #[.string x2] (.int .i64 v2))) :
    Calls Tryz.prog 13 #[.string s] w (RpP w zEv false) := by
  go_enter Tryz.func13, Tryz.ntmps13
  go_wp2_with fail
  refine (HC.out _).mono ?_
  rintro e wb ⟨r, c, rfl, hr, hrow, hb⟩
  have hz : wb.heap[w.heap.size]? = some (.cells #[.int .u8 0, .int .i64 0, .int .i64 0, .int .i64 0, .int .i64 0, .string ⟨#[]⟩, .string ⟨#[]⟩, .string ⟨#[]⟩, .bool false] 24) := (objNext (B := 0) ⟨Nat.zero_le _, objHere _ _⟩ hb).2
  have B1 : Hid (Below w.heap.size w wb) := (own_below _ _).trans (hb.mono (by simp))
  have hr0 : w.heap.size < r := Nat.lt_of_lt_of_le (by simp) hr
  have HZ := Lib.hid hz
  have HROW := Lib.hid hrow
  have hrl : r < wb.heap.size := hrow.lt
  have e1 : wb.cell? ⟨r, 1, none⟩ = some (.string x1) := (hrow.cell (List.getElem?_eq_some_iff.1 L1).1).trans L1
  have e2 : wb.cell? ⟨r, 2, none⟩ = some (.string x2) := (hrow.cell (List.getElem?_eq_some_iff.1 L2).1).trans L2
  clear hb hz hrow hr
  go_upto_region 4 with (fail)
  go_cut [5] (fun s5 wx => ∃ q, s5 = .pointer (some ⟨q, 0, none⟩) ∧ wb.heap.size ≤ q ∧ wx.heap[q]? = some (.cells #[.int .u8 0, .int .i64 v1, .int .i64 v2, .int .i64 0, .int .i64 0, .string ⟨#[]⟩, .string ⟨#[]⟩, .string ⟨#[]⟩, .bool false] 24) ∧ Below wb.heap.size wb wx)
  case first =>
    have HALL : Hid (∀ W : World, Below wb.heap.size wb W → W.cell? ⟨r, 1, none⟩ = some (.string x1) ∧ W.cell? ⟨r, 2, none⟩ = some (.string x2) ∧ Below wb.heap.size wb W) := fun W h => ⟨((bcell h).1 _ _ hrl).trans e1, ((bcell h).1 _ _ hrl).trans e2, h⟩
    have HNXT : Hid (∀ W W' : World, (W.cell? ⟨r, 1, none⟩ = some (.string x1) ∧ W.cell? ⟨r, 2, none⟩ = some (.string x2) ∧ Below wb.heap.size wb W) → Below W.heap.size W W' → Below wb.heap.size wb W') := fun W W' h h' => h.2.2.trans (h'.mono h.2.2.size)
    have HALC : Hid (∀ (W : World) (O : Obj), (W.cell? ⟨r, 1, none⟩ = some (.string x1) ∧ W.cell? ⟨r, 2, none⟩ = some (.string x2) ∧ Below wb.heap.size wb W) → Below wb.heap.size wb (W.alloc O)) := fun W O h => h.2.2.alloc h.2.2.size O
    have h1n : ¬((n : Int) ≤ 1) := by omega
    have h2n : ¬((n : Int) ≤ 2) := by omega
    have HA0 : Hid (∀ O : Obj, Below wb.heap.size wb (wb.alloc O).drew) := fun O => (own_below wb O).drew
    have HD0 : Hid (Below wb.heap.size wb wb.drew) := (Below.refl _ wb).drew
    clear HZ
    go_region_held (fun W => W.cell? ⟨r, 1, none⟩ = some (.string x1) ∧ W.cell? ⟨r, 2, none⟩ = some (.string x2) ∧ Below wb.heap.size wb W)
      ((first | with_reducible exact HALL.out _ (put9_below bn Z.1 _ _ _ _ _ _ _ _ _) | with_reducible exact HALL.out _ bn | with_reducible exact HALL.out _ (HALC.out _ _ (by assumption)) | with_reducible exact HALL.out _ HD0.out | with_reducible exact HALL.out _ (HA0.out _) | with_reducible exact HALL.out _ (Below.alloc bn (Below.size bn) _)))
      ((go_at_call 35; go_must ((first | with_reducible refine (Ca.at HC1.out _).mono ?_ | with_reducible refine (Ca.at HC2.out _).mono ?_); rintro e wf ⟨rfl, bf⟩; have bn := HNXT.out _ _ (by assumption) bf; (first | (with_reducible have Z := objNext Z bf) | (with_reducible have Z := objNewD bf) | (with_reducible have Z := objNew bo bf) | skip); have bo := bn; (first | (obtain ⟨z0, z1, z2, z3, z4, z5, z6, z7, z8⟩ := zcells Z.2; have zf := zfrozen Z.2) | skip))))
    all_goals
      go_wp2_with fail
      go_meet
      first
        | exact ⟨_, rfl, Z.1, put9_heap Z.2 _ _ _ _ _ _ _ _ _, put9_below bn Z.1 _ _ _ _ _ _ _ _ _⟩
        | exact ⟨_, rfl, bn.size, objHere _ _, bn.alloc bn.size _⟩
  case rest =>
  obtain ⟨wd, rfl⟩ : ∃ wd : World, wd = wc := ⟨_, rfl⟩
  obtain ⟨q, rfl, hq, ho, bq⟩ := hcut
  have T0 : Hid (TwoB w q r l #[.int .u8 0, .int .i64 v1, .int .i64 v2, .int .i64 0, .int .i64 0, .string ⟨#[]⟩, .string ⟨#[]⟩, .string ⟨#[]⟩, .bool false] wd) := ⟨by rw [bq.block _ (Nat.lt_trans hr0 hrl)]; exact HZ.out, ho, HROW.out.below bq hrl, B1.out.trans (bq.mono B1.out.size), by omega, by omega, hr0⟩
  clear ho bq hq HZ HROW B1 e1 e2
  have hrq : r ≠ q := Ne.symm T0.out.qr
  have hqr := T0.out.qr
  have g0 : ¬((n : Int) ≤ 0) := by omega
  have m6 : ((n : Int) == 6) = false := by simp; omega
  obtain ⟨o0, o1, o2, o3, o4, o5, o6, o7, o8⟩ := zcells T0.out.z
  have of := zfrozen T0.out.z
  have e0 := (T0.out.row.cell (List.getElem?_eq_some_iff.1 L0).1).trans L0
  go_wp2_with fail
  refine bodyPost_ret (results_row_tmp rfl _ _ w.heap.size 24 _ _ rfl (put9_heap T0.out.z _ _ _ _ _ _ _ _ _) Tryz.underlying24 rfl rfl) rfl ?_
  exact ⟨put9_below T0.out.h (Nat.le_refl _) _ _ _ _ _ _ _ _ _, .inr ⟨rfl, rfl⟩⟩

set_option maxHeartbeats 8000000 in
set_option maxRecDepth 100000 in
theorem rparse_no2 (s x0 x1 x2 : ByteArray) (l : List Value) (n : Nat) (v1 v2 : Int) (w : World)
    (L0 : l[0]? = some (.string x0))
    (L1 : l[1]? = some (.string x1))
    (L2 : l[2]? = some (.string x2))
    (hn4 : 4 ≤ n)
    (t1 : (x0.toList == [102, 105, 120]) = false)
    (t2 : (x0.toList == [99, 104, 111, 105, 99, 101]) = true)
    (t3 : (x0.toList == [118, 97, 108, 117, 101]) = false)
    (t4 : (x0.toList == [115, 105, 100, 101]) = false)
    (t5 : (x0.toList == [99, 97, 110, 99, 101, 108]) = false)
    (hn : n ≠ 7)
    (HC : Hid (∀ W, Calls Tryz.prog 34 #[.string s] W (CutN W n l)))
    (HC1 : Hid (Ca 35 #[.string x1] (.int .i64 v1)))
    (HC2 : Hid (Ca 35 #[.string x2] (.int .i64 v2))) :
    Calls Tryz.prog 13 #[.string s] w (RpP w zEv false) := by
  go_enter Tryz.func13, Tryz.ntmps13
  go_wp2_with fail
  refine (HC.out _).mono ?_
  rintro e wb ⟨r, c, rfl, hr, hrow, hb⟩
  have hz : wb.heap[w.heap.size]? = some (.cells #[.int .u8 0, .int .i64 0, .int .i64 0, .int .i64 0, .int .i64 0, .string ⟨#[]⟩, .string ⟨#[]⟩, .string ⟨#[]⟩, .bool false] 24) := (objNext (B := 0) ⟨Nat.zero_le _, objHere _ _⟩ hb).2
  have B1 : Hid (Below w.heap.size w wb) := (own_below _ _).trans (hb.mono (by simp))
  have hr0 : w.heap.size < r := Nat.lt_of_lt_of_le (by simp) hr
  have HZ := Lib.hid hz
  have HROW := Lib.hid hrow
  have hrl : r < wb.heap.size := hrow.lt
  have e1 : wb.cell? ⟨r, 1, none⟩ = some (.string x1) := (hrow.cell (List.getElem?_eq_some_iff.1 L1).1).trans L1
  have e2 : wb.cell? ⟨r, 2, none⟩ = some (.string x2) := (hrow.cell (List.getElem?_eq_some_iff.1 L2).1).trans L2
  clear hb hz hrow hr
  go_upto_region 4 with (fail)
  go_cut [5] (fun s5 wx => ∃ q, s5 = .pointer (some ⟨q, 0, none⟩) ∧ wb.heap.size ≤ q ∧ wx.heap[q]? = some (.cells #[.int .u8 0, .int .i64 v1, .int .i64 v2, .int .i64 0, .int .i64 0, .string ⟨#[]⟩, .string ⟨#[]⟩, .string ⟨#[]⟩, .bool false] 24) ∧ Below wb.heap.size wb wx)
  case first =>
    have HALL : Hid (∀ W : World, Below wb.heap.size wb W → W.cell? ⟨r, 1, none⟩ = some (.string x1) ∧ W.cell? ⟨r, 2, none⟩ = some (.string x2) ∧ Below wb.heap.size wb W) := fun W h => ⟨((bcell h).1 _ _ hrl).trans e1, ((bcell h).1 _ _ hrl).trans e2, h⟩
    have HNXT : Hid (∀ W W' : World, (W.cell? ⟨r, 1, none⟩ = some (.string x1) ∧ W.cell? ⟨r, 2, none⟩ = some (.string x2) ∧ Below wb.heap.size wb W) → Below W.heap.size W W' → Below wb.heap.size wb W') := fun W W' h h' => h.2.2.trans (h'.mono h.2.2.size)
    have HALC : Hid (∀ (W : World) (O : Obj), (W.cell? ⟨r, 1, none⟩ = some (.string x1) ∧ W.cell? ⟨r, 2, none⟩ = some (.string x2) ∧ Below wb.heap.size wb W) → Below wb.heap.size wb (W.alloc O)) := fun W O h => h.2.2.alloc h.2.2.size O
    have h1n : ¬((n : Int) ≤ 1) := by omega
    have h2n : ¬((n : Int) ≤ 2) := by omega
    have HA0 : Hid (∀ O : Obj, Below wb.heap.size wb (wb.alloc O).drew) := fun O => (own_below wb O).drew
    have HD0 : Hid (Below wb.heap.size wb wb.drew) := (Below.refl _ wb).drew
    clear HZ
    go_region_held (fun W => W.cell? ⟨r, 1, none⟩ = some (.string x1) ∧ W.cell? ⟨r, 2, none⟩ = some (.string x2) ∧ Below wb.heap.size wb W)
      ((first | with_reducible exact HALL.out _ (put9_below bn Z.1 _ _ _ _ _ _ _ _ _) | with_reducible exact HALL.out _ bn | with_reducible exact HALL.out _ (HALC.out _ _ (by assumption)) | with_reducible exact HALL.out _ HD0.out | with_reducible exact HALL.out _ (HA0.out _) | with_reducible exact HALL.out _ (Below.alloc bn (Below.size bn) _)))
      ((go_at_call 35; go_must ((first | with_reducible refine (Ca.at HC1.out _).mono ?_ | with_reducible refine (Ca.at HC2.out _).mono ?_); rintro e wf ⟨rfl, bf⟩; have bn := HNXT.out _ _ (by assumption) bf; (first | (with_reducible have Z := objNext Z bf) | (with_reducible have Z := objNewD bf) | (with_reducible have Z := objNew bo bf) | skip); have bo := bn; (first | (obtain ⟨z0, z1, z2, z3, z4, z5, z6, z7, z8⟩ := zcells Z.2; have zf := zfrozen Z.2) | skip))))
    all_goals
      go_wp2_with fail
      go_meet
      first
        | exact ⟨_, rfl, Z.1, put9_heap Z.2 _ _ _ _ _ _ _ _ _, put9_below bn Z.1 _ _ _ _ _ _ _ _ _⟩
        | exact ⟨_, rfl, bn.size, objHere _ _, bn.alloc bn.size _⟩
  case rest =>
  obtain ⟨wd, rfl⟩ : ∃ wd : World, wd = wc := ⟨_, rfl⟩
  obtain ⟨q, rfl, hq, ho, bq⟩ := hcut
  have T0 : Hid (TwoB w q r l #[.int .u8 0, .int .i64 v1, .int .i64 v2, .int .i64 0, .int .i64 0, .string ⟨#[]⟩, .string ⟨#[]⟩, .string ⟨#[]⟩, .bool false] wd) := ⟨by rw [bq.block _ (Nat.lt_trans hr0 hrl)]; exact HZ.out, ho, HROW.out.below bq hrl, B1.out.trans (bq.mono B1.out.size), by omega, by omega, hr0⟩
  clear ho bq hq HZ HROW B1 e1 e2
  have hrq : r ≠ q := Ne.symm T0.out.qr
  have hqr := T0.out.qr
  have g0 : ¬((n : Int) ≤ 0) := by omega
  have m7 : ((n : Int) == 7) = false := by simp; omega
  obtain ⟨o0, o1, o2, o3, o4, o5, o6, o7, o8⟩ := zcells T0.out.z
  have of := zfrozen T0.out.z
  have e0 := (T0.out.row.cell (List.getElem?_eq_some_iff.1 L0).1).trans L0
  go_wp2_with fail
  refine bodyPost_ret (results_row_tmp rfl _ _ w.heap.size 24 _ _ rfl (put9_heap T0.out.z _ _ _ _ _ _ _ _ _) Tryz.underlying24 rfl rfl) rfl ?_
  exact ⟨put9_below T0.out.h (Nat.le_refl _) _ _ _ _ _ _ _ _ _, .inr ⟨rfl, rfl⟩⟩

set_option maxHeartbeats 8000000 in
set_option maxRecDepth 100000 in
theorem rparse_no3 (s x0 x1 x2 : ByteArray) (l : List Value) (n : Nat) (v1 v2 : Int) (w : World)
    (L0 : l[0]? = some (.string x0))
    (L1 : l[1]? = some (.string x1))
    (L2 : l[2]? = some (.string x2))
    (hn4 : 4 ≤ n)
    (t1 : (x0.toList == [102, 105, 120]) = false)
    (t2 : (x0.toList == [99, 104, 111, 105, 99, 101]) = false)
    (t3 : (x0.toList == [118, 97, 108, 117, 101]) = true)
    (t4 : (x0.toList == [115, 105, 100, 101]) = false)
    (t5 : (x0.toList == [99, 97, 110, 99, 101, 108]) = false)
    (hn : n ≠ 5)
    (HC : Hid (∀ W, Calls Tryz.prog 34 #[.string s] W (CutN W n l)))
    (HC1 : Hid (Ca 35 #[.string x1] (.int .i64 v1)))
    (HC2 : Hid (Ca 35 #[.string x2] (.int .i64 v2))) :
    Calls Tryz.prog 13 #[.string s] w (RpP w zEv false) := by
  go_enter Tryz.func13, Tryz.ntmps13
  go_wp2_with fail
  refine (HC.out _).mono ?_
  rintro e wb ⟨r, c, rfl, hr, hrow, hb⟩
  have hz : wb.heap[w.heap.size]? = some (.cells #[.int .u8 0, .int .i64 0, .int .i64 0, .int .i64 0, .int .i64 0, .string ⟨#[]⟩, .string ⟨#[]⟩, .string ⟨#[]⟩, .bool false] 24) := (objNext (B := 0) ⟨Nat.zero_le _, objHere _ _⟩ hb).2
  have B1 : Hid (Below w.heap.size w wb) := (own_below _ _).trans (hb.mono (by simp))
  have hr0 : w.heap.size < r := Nat.lt_of_lt_of_le (by simp) hr
  have HZ := Lib.hid hz
  have HROW := Lib.hid hrow
  have hrl : r < wb.heap.size := hrow.lt
  have e1 : wb.cell? ⟨r, 1, none⟩ = some (.string x1) := (hrow.cell (List.getElem?_eq_some_iff.1 L1).1).trans L1
  have e2 : wb.cell? ⟨r, 2, none⟩ = some (.string x2) := (hrow.cell (List.getElem?_eq_some_iff.1 L2).1).trans L2
  clear hb hz hrow hr
  go_upto_region 4 with (fail)
  go_cut [5] (fun s5 wx => ∃ q, s5 = .pointer (some ⟨q, 0, none⟩) ∧ wb.heap.size ≤ q ∧ wx.heap[q]? = some (.cells #[.int .u8 0, .int .i64 v1, .int .i64 v2, .int .i64 0, .int .i64 0, .string ⟨#[]⟩, .string ⟨#[]⟩, .string ⟨#[]⟩, .bool false] 24) ∧ Below wb.heap.size wb wx)
  case first =>
    have HALL : Hid (∀ W : World, Below wb.heap.size wb W → W.cell? ⟨r, 1, none⟩ = some (.string x1) ∧ W.cell? ⟨r, 2, none⟩ = some (.string x2) ∧ Below wb.heap.size wb W) := fun W h => ⟨((bcell h).1 _ _ hrl).trans e1, ((bcell h).1 _ _ hrl).trans e2, h⟩
    have HNXT : Hid (∀ W W' : World, (W.cell? ⟨r, 1, none⟩ = some (.string x1) ∧ W.cell? ⟨r, 2, none⟩ = some (.string x2) ∧ Below wb.heap.size wb W) → Below W.heap.size W W' → Below wb.heap.size wb W') := fun W W' h h' => h.2.2.trans (h'.mono h.2.2.size)
    have HALC : Hid (∀ (W : World) (O : Obj), (W.cell? ⟨r, 1, none⟩ = some (.string x1) ∧ W.cell? ⟨r, 2, none⟩ = some (.string x2) ∧ Below wb.heap.size wb W) → Below wb.heap.size wb (W.alloc O)) := fun W O h => h.2.2.alloc h.2.2.size O
    have h1n : ¬((n : Int) ≤ 1) := by omega
    have h2n : ¬((n : Int) ≤ 2) := by omega
    have HA0 : Hid (∀ O : Obj, Below wb.heap.size wb (wb.alloc O).drew) := fun O => (own_below wb O).drew
    have HD0 : Hid (Below wb.heap.size wb wb.drew) := (Below.refl _ wb).drew
    clear HZ
    go_region_held (fun W => W.cell? ⟨r, 1, none⟩ = some (.string x1) ∧ W.cell? ⟨r, 2, none⟩ = some (.string x2) ∧ Below wb.heap.size wb W)
      ((first | with_reducible exact HALL.out _ (put9_below bn Z.1 _ _ _ _ _ _ _ _ _) | with_reducible exact HALL.out _ bn | with_reducible exact HALL.out _ (HALC.out _ _ (by assumption)) | with_reducible exact HALL.out _ HD0.out | with_reducible exact HALL.out _ (HA0.out _) | with_reducible exact HALL.out _ (Below.alloc bn (Below.size bn) _)))
      ((go_at_call 35; go_must ((first | with_reducible refine (Ca.at HC1.out _).mono ?_ | with_reducible refine (Ca.at HC2.out _).mono ?_); rintro e wf ⟨rfl, bf⟩; have bn := HNXT.out _ _ (by assumption) bf; (first | (with_reducible have Z := objNext Z bf) | (with_reducible have Z := objNewD bf) | (with_reducible have Z := objNew bo bf) | skip); have bo := bn; (first | (obtain ⟨z0, z1, z2, z3, z4, z5, z6, z7, z8⟩ := zcells Z.2; have zf := zfrozen Z.2) | skip))))
    all_goals
      go_wp2_with fail
      go_meet
      first
        | exact ⟨_, rfl, Z.1, put9_heap Z.2 _ _ _ _ _ _ _ _ _, put9_below bn Z.1 _ _ _ _ _ _ _ _ _⟩
        | exact ⟨_, rfl, bn.size, objHere _ _, bn.alloc bn.size _⟩
  case rest =>
  obtain ⟨wd, rfl⟩ : ∃ wd : World, wd = wc := ⟨_, rfl⟩
  obtain ⟨q, rfl, hq, ho, bq⟩ := hcut
  have T0 : Hid (TwoB w q r l #[.int .u8 0, .int .i64 v1, .int .i64 v2, .int .i64 0, .int .i64 0, .string ⟨#[]⟩, .string ⟨#[]⟩, .string ⟨#[]⟩, .bool false] wd) := ⟨by rw [bq.block _ (Nat.lt_trans hr0 hrl)]; exact HZ.out, ho, HROW.out.below bq hrl, B1.out.trans (bq.mono B1.out.size), by omega, by omega, hr0⟩
  clear ho bq hq HZ HROW B1 e1 e2
  have hrq : r ≠ q := Ne.symm T0.out.qr
  have hqr := T0.out.qr
  have g0 : ¬((n : Int) ≤ 0) := by omega
  have m5 : ((n : Int) == 5) = false := by simp; omega
  obtain ⟨o0, o1, o2, o3, o4, o5, o6, o7, o8⟩ := zcells T0.out.z
  have of := zfrozen T0.out.z
  have e0 := (T0.out.row.cell (List.getElem?_eq_some_iff.1 L0).1).trans L0
  go_wp2_with fail
  refine bodyPost_ret (results_row_tmp rfl _ _ w.heap.size 24 _ _ rfl (put9_heap T0.out.z _ _ _ _ _ _ _ _ _) Tryz.underlying24 rfl rfl) rfl ?_
  exact ⟨put9_below T0.out.h (Nat.le_refl _) _ _ _ _ _ _ _ _ _, .inr ⟨rfl, rfl⟩⟩

set_option maxHeartbeats 8000000 in
set_option maxRecDepth 100000 in
theorem rparse_no4 (s x0 x1 x2 : ByteArray) (l : List Value) (n : Nat) (v1 v2 : Int) (w : World)
    (L0 : l[0]? = some (.string x0))
    (L1 : l[1]? = some (.string x1))
    (L2 : l[2]? = some (.string x2))
    (hn4 : 4 ≤ n)
    (t1 : (x0.toList == [102, 105, 120]) = false)
    (t2 : (x0.toList == [99, 104, 111, 105, 99, 101]) = false)
    (t3 : (x0.toList == [118, 97, 108, 117, 101]) = false)
    (t4 : (x0.toList == [115, 105, 100, 101]) = true)
    (t5 : (x0.toList == [99, 97, 110, 99, 101, 108]) = false)
    (hn : n ≠ 5)
    (HC : Hid (∀ W, Calls Tryz.prog 34 #[.string s] W (CutN W n l)))
    (HC1 : Hid (Ca 35 #[.string x1] (.int .i64 v1)))
    (HC2 : Hid (Ca 35 #[.string x2] (.int .i64 v2))) :
    Calls Tryz.prog 13 #[.string s] w (RpP w zEv false) := by
  go_enter Tryz.func13, Tryz.ntmps13
  go_wp2_with fail
  refine (HC.out _).mono ?_
  rintro e wb ⟨r, c, rfl, hr, hrow, hb⟩
  have hz : wb.heap[w.heap.size]? = some (.cells #[.int .u8 0, .int .i64 0, .int .i64 0, .int .i64 0, .int .i64 0, .string ⟨#[]⟩, .string ⟨#[]⟩, .string ⟨#[]⟩, .bool false] 24) := (objNext (B := 0) ⟨Nat.zero_le _, objHere _ _⟩ hb).2
  have B1 : Hid (Below w.heap.size w wb) := (own_below _ _).trans (hb.mono (by simp))
  have hr0 : w.heap.size < r := Nat.lt_of_lt_of_le (by simp) hr
  have HZ := Lib.hid hz
  have HROW := Lib.hid hrow
  have hrl : r < wb.heap.size := hrow.lt
  have e1 : wb.cell? ⟨r, 1, none⟩ = some (.string x1) := (hrow.cell (List.getElem?_eq_some_iff.1 L1).1).trans L1
  have e2 : wb.cell? ⟨r, 2, none⟩ = some (.string x2) := (hrow.cell (List.getElem?_eq_some_iff.1 L2).1).trans L2
  clear hb hz hrow hr
  go_upto_region 4 with (fail)
  go_cut [5] (fun s5 wx => ∃ q, s5 = .pointer (some ⟨q, 0, none⟩) ∧ wb.heap.size ≤ q ∧ wx.heap[q]? = some (.cells #[.int .u8 0, .int .i64 v1, .int .i64 v2, .int .i64 0, .int .i64 0, .string ⟨#[]⟩, .string ⟨#[]⟩, .string ⟨#[]⟩, .bool false] 24) ∧ Below wb.heap.size wb wx)
  case first =>
    have HALL : Hid (∀ W : World, Below wb.heap.size wb W → W.cell? ⟨r, 1, none⟩ = some (.string x1) ∧ W.cell? ⟨r, 2, none⟩ = some (.string x2) ∧ Below wb.heap.size wb W) := fun W h => ⟨((bcell h).1 _ _ hrl).trans e1, ((bcell h).1 _ _ hrl).trans e2, h⟩
    have HNXT : Hid (∀ W W' : World, (W.cell? ⟨r, 1, none⟩ = some (.string x1) ∧ W.cell? ⟨r, 2, none⟩ = some (.string x2) ∧ Below wb.heap.size wb W) → Below W.heap.size W W' → Below wb.heap.size wb W') := fun W W' h h' => h.2.2.trans (h'.mono h.2.2.size)
    have HALC : Hid (∀ (W : World) (O : Obj), (W.cell? ⟨r, 1, none⟩ = some (.string x1) ∧ W.cell? ⟨r, 2, none⟩ = some (.string x2) ∧ Below wb.heap.size wb W) → Below wb.heap.size wb (W.alloc O)) := fun W O h => h.2.2.alloc h.2.2.size O
    have h1n : ¬((n : Int) ≤ 1) := by omega
    have h2n : ¬((n : Int) ≤ 2) := by omega
    have HA0 : Hid (∀ O : Obj, Below wb.heap.size wb (wb.alloc O).drew) := fun O => (own_below wb O).drew
    have HD0 : Hid (Below wb.heap.size wb wb.drew) := (Below.refl _ wb).drew
    clear HZ
    go_region_held (fun W => W.cell? ⟨r, 1, none⟩ = some (.string x1) ∧ W.cell? ⟨r, 2, none⟩ = some (.string x2) ∧ Below wb.heap.size wb W)
      ((first | with_reducible exact HALL.out _ (put9_below bn Z.1 _ _ _ _ _ _ _ _ _) | with_reducible exact HALL.out _ bn | with_reducible exact HALL.out _ (HALC.out _ _ (by assumption)) | with_reducible exact HALL.out _ HD0.out | with_reducible exact HALL.out _ (HA0.out _) | with_reducible exact HALL.out _ (Below.alloc bn (Below.size bn) _)))
      ((go_at_call 35; go_must ((first | with_reducible refine (Ca.at HC1.out _).mono ?_ | with_reducible refine (Ca.at HC2.out _).mono ?_); rintro e wf ⟨rfl, bf⟩; have bn := HNXT.out _ _ (by assumption) bf; (first | (with_reducible have Z := objNext Z bf) | (with_reducible have Z := objNewD bf) | (with_reducible have Z := objNew bo bf) | skip); have bo := bn; (first | (obtain ⟨z0, z1, z2, z3, z4, z5, z6, z7, z8⟩ := zcells Z.2; have zf := zfrozen Z.2) | skip))))
    all_goals
      go_wp2_with fail
      go_meet
      first
        | exact ⟨_, rfl, Z.1, put9_heap Z.2 _ _ _ _ _ _ _ _ _, put9_below bn Z.1 _ _ _ _ _ _ _ _ _⟩
        | exact ⟨_, rfl, bn.size, objHere _ _, bn.alloc bn.size _⟩
  case rest =>
  obtain ⟨wd, rfl⟩ : ∃ wd : World, wd = wc := ⟨_, rfl⟩
  obtain ⟨q, rfl, hq, ho, bq⟩ := hcut
  have T0 : Hid (TwoB w q r l #[.int .u8 0, .int .i64 v1, .int .i64 v2, .int .i64 0, .int .i64 0, .string ⟨#[]⟩, .string ⟨#[]⟩, .string ⟨#[]⟩, .bool false] wd) := ⟨by rw [bq.block _ (Nat.lt_trans hr0 hrl)]; exact HZ.out, ho, HROW.out.below bq hrl, B1.out.trans (bq.mono B1.out.size), by omega, by omega, hr0⟩
  clear ho bq hq HZ HROW B1 e1 e2
  have hrq : r ≠ q := Ne.symm T0.out.qr
  have hqr := T0.out.qr
  have g0 : ¬((n : Int) ≤ 0) := by omega
  have m5 : ((n : Int) == 5) = false := by simp; omega
  obtain ⟨o0, o1, o2, o3, o4, o5, o6, o7, o8⟩ := zcells T0.out.z
  have of := zfrozen T0.out.z
  have e0 := (T0.out.row.cell (List.getElem?_eq_some_iff.1 L0).1).trans L0
  go_wp2_with fail
  refine bodyPost_ret (results_row_tmp rfl _ _ w.heap.size 24 _ _ rfl (put9_heap T0.out.z _ _ _ _ _ _ _ _ _) Tryz.underlying24 rfl rfl) rfl ?_
  exact ⟨put9_below T0.out.h (Nat.le_refl _) _ _ _ _ _ _ _ _ _, .inr ⟨rfl, rfl⟩⟩

set_option maxHeartbeats 8000000 in
set_option maxRecDepth 100000 in
theorem rparse_no5 (s x0 x1 x2 : ByteArray) (l : List Value) (n : Nat) (v1 v2 : Int) (w : World)
    (L0 : l[0]? = some (.string x0))
    (L1 : l[1]? = some (.string x1))
    (L2 : l[2]? = some (.string x2))
    (hn4 : 4 ≤ n)
    (t1 : (x0.toList == [102, 105, 120]) = false)
    (t2 : (x0.toList == [99, 104, 111, 105, 99, 101]) = false)
    (t3 : (x0.toList == [118, 97, 108, 117, 101]) = false)
    (t4 : (x0.toList == [115, 105, 100, 101]) = false)
    (t5 : (x0.toList == [99, 97, 110, 99, 101, 108]) = true)
    (hn : n ≠ 4)
    (HC : Hid (∀ W, Calls Tryz.prog 34 #[.string s] W (CutN W n l)))
    (HC1 : Hid (Ca 35 #[.string x1] (.int .i64 v1)))
    (HC2 : Hid (Ca 35 #[.string x2] (.int .i64 v2))) :
    Calls Tryz.prog 13 #[.string s] w (RpP w zEv false) := by
  go_enter Tryz.func13, Tryz.ntmps13
  go_wp2_with fail
  refine (HC.out _).mono ?_
  rintro e wb ⟨r, c, rfl, hr, hrow, hb⟩
  have hz : wb.heap[w.heap.size]? = some (.cells #[.int .u8 0, .int .i64 0, .int .i64 0, .int .i64 0, .int .i64 0, .string ⟨#[]⟩, .string ⟨#[]⟩, .string ⟨#[]⟩, .bool false] 24) := (objNext (B := 0) ⟨Nat.zero_le _, objHere _ _⟩ hb).2
  have B1 : Hid (Below w.heap.size w wb) := (own_below _ _).trans (hb.mono (by simp))
  have hr0 : w.heap.size < r := Nat.lt_of_lt_of_le (by simp) hr
  have HZ := Lib.hid hz
  have HROW := Lib.hid hrow
  have hrl : r < wb.heap.size := hrow.lt
  have e1 : wb.cell? ⟨r, 1, none⟩ = some (.string x1) := (hrow.cell (List.getElem?_eq_some_iff.1 L1).1).trans L1
  have e2 : wb.cell? ⟨r, 2, none⟩ = some (.string x2) := (hrow.cell (List.getElem?_eq_some_iff.1 L2).1).trans L2
  clear hb hz hrow hr
  go_upto_region 4 with (fail)
  go_cut [5] (fun s5 wx => ∃ q, s5 = .pointer (some ⟨q, 0, none⟩) ∧ wb.heap.size ≤ q ∧ wx.heap[q]? = some (.cells #[.int .u8 0, .int .i64 v1, .int .i64 v2, .int .i64 0, .int .i64 0, .string ⟨#[]⟩, .string ⟨#[]⟩, .string ⟨#[]⟩, .bool false] 24) ∧ Below wb.heap.size wb wx)
  case first =>
    have HALL : Hid (∀ W : World, Below wb.heap.size wb W → W.cell? ⟨r, 1, none⟩ = some (.string x1) ∧ W.cell? ⟨r, 2, none⟩ = some (.string x2) ∧ Below wb.heap.size wb W) := fun W h => ⟨((bcell h).1 _ _ hrl).trans e1, ((bcell h).1 _ _ hrl).trans e2, h⟩
    have HNXT : Hid (∀ W W' : World, (W.cell? ⟨r, 1, none⟩ = some (.string x1) ∧ W.cell? ⟨r, 2, none⟩ = some (.string x2) ∧ Below wb.heap.size wb W) → Below W.heap.size W W' → Below wb.heap.size wb W') := fun W W' h h' => h.2.2.trans (h'.mono h.2.2.size)
    have HALC : Hid (∀ (W : World) (O : Obj), (W.cell? ⟨r, 1, none⟩ = some (.string x1) ∧ W.cell? ⟨r, 2, none⟩ = some (.string x2) ∧ Below wb.heap.size wb W) → Below wb.heap.size wb (W.alloc O)) := fun W O h => h.2.2.alloc h.2.2.size O
    have h1n : ¬((n : Int) ≤ 1) := by omega
    have h2n : ¬((n : Int) ≤ 2) := by omega
    have HA0 : Hid (∀ O : Obj, Below wb.heap.size wb (wb.alloc O).drew) := fun O => (own_below wb O).drew
    have HD0 : Hid (Below wb.heap.size wb wb.drew) := (Below.refl _ wb).drew
    clear HZ
    go_region_held (fun W => W.cell? ⟨r, 1, none⟩ = some (.string x1) ∧ W.cell? ⟨r, 2, none⟩ = some (.string x2) ∧ Below wb.heap.size wb W)
      ((first | with_reducible exact HALL.out _ (put9_below bn Z.1 _ _ _ _ _ _ _ _ _) | with_reducible exact HALL.out _ bn | with_reducible exact HALL.out _ (HALC.out _ _ (by assumption)) | with_reducible exact HALL.out _ HD0.out | with_reducible exact HALL.out _ (HA0.out _) | with_reducible exact HALL.out _ (Below.alloc bn (Below.size bn) _)))
      ((go_at_call 35; go_must ((first | with_reducible refine (Ca.at HC1.out _).mono ?_ | with_reducible refine (Ca.at HC2.out _).mono ?_); rintro e wf ⟨rfl, bf⟩; have bn := HNXT.out _ _ (by assumption) bf; (first | (with_reducible have Z := objNext Z bf) | (with_reducible have Z := objNewD bf) | (with_reducible have Z := objNew bo bf) | skip); have bo := bn; (first | (obtain ⟨z0, z1, z2, z3, z4, z5, z6, z7, z8⟩ := zcells Z.2; have zf := zfrozen Z.2) | skip))))
    all_goals
      go_wp2_with fail
      go_meet
      first
        | exact ⟨_, rfl, Z.1, put9_heap Z.2 _ _ _ _ _ _ _ _ _, put9_below bn Z.1 _ _ _ _ _ _ _ _ _⟩
        | exact ⟨_, rfl, bn.size, objHere _ _, bn.alloc bn.size _⟩
  case rest =>
  obtain ⟨wd, rfl⟩ : ∃ wd : World, wd = wc := ⟨_, rfl⟩
  obtain ⟨q, rfl, hq, ho, bq⟩ := hcut
  have T0 : Hid (TwoB w q r l #[.int .u8 0, .int .i64 v1, .int .i64 v2, .int .i64 0, .int .i64 0, .string ⟨#[]⟩, .string ⟨#[]⟩, .string ⟨#[]⟩, .bool false] wd) := ⟨by rw [bq.block _ (Nat.lt_trans hr0 hrl)]; exact HZ.out, ho, HROW.out.below bq hrl, B1.out.trans (bq.mono B1.out.size), by omega, by omega, hr0⟩
  clear ho bq hq HZ HROW B1 e1 e2
  have hrq : r ≠ q := Ne.symm T0.out.qr
  have hqr := T0.out.qr
  have g0 : ¬((n : Int) ≤ 0) := by omega
  have m4 : ((n : Int) == 4) = false := by simp; omega
  obtain ⟨o0, o1, o2, o3, o4, o5, o6, o7, o8⟩ := zcells T0.out.z
  have of := zfrozen T0.out.z
  have e0 := (T0.out.row.cell (List.getElem?_eq_some_iff.1 L0).1).trans L0
  go_wp2_with fail
  refine bodyPost_ret (results_row_tmp rfl _ _ w.heap.size 24 _ _ rfl (put9_heap T0.out.z _ _ _ _ _ _ _ _ _) Tryz.underlying24 rfl rfl) rfl ?_
  exact ⟨put9_below T0.out.h (Nat.le_refl _) _ _ _ _ _ _ _ _ _, .inr ⟨rfl, rfl⟩⟩

set_option maxHeartbeats 8000000 in
set_option maxRecDepth 100000 in
theorem rparse_few (s : ByteArray) (l : List Value) (n : Nat) (w : World) (hn : n < 4) (HC : Hid (∀ W, Calls Tryz.prog 34 #[.string s] W (CutN W n l))) :
    Calls Tryz.prog 13 #[.string s] w (RpP w zEv false) := by
  go_enter Tryz.func13, Tryz.ntmps13
  go_wp2_with fail
  refine (HC.out _).mono ?_
  rintro e wb ⟨r, c, rfl, hr, hrow, hb⟩
  have hz : wb.heap[w.heap.size]? = some (.cells #[.int .u8 0, .int .i64 0, .int .i64 0, .int .i64 0, .int .i64 0, .string ⟨#[]⟩, .string ⟨#[]⟩, .string ⟨#[]⟩, .bool false] 24) := (objNext (B := 0) ⟨Nat.zero_le _, objHere _ _⟩ hb).2
  have B1 : Hid (Below w.heap.size w wb) := (own_below _ _).trans (hb.mono (by simp))
  have HZ := Lib.hid hz
  obtain ⟨o0, o1, o2, o3, o4, o5, o6, o7, o8⟩ := zcells hz
  have of := zfrozen hz
  clear hz hrow hb hr
  have g : decide ((n : Int) < 4) = true := by simp; omega
  go_wp2_with fail
  refine bodyPost_ret (results_row_tmp rfl _ _ w.heap.size 24 _ _ rfl (put9_heap HZ.out _ _ _ _ _ _ _ _ _) Tryz.underlying24 rfl rfl) rfl ?_
  exact ⟨put9_below B1.out (Nat.le_refl _) _ _ _ _ _ _ _ _ _, .inr ⟨rfl, rfl⟩⟩

end Go.Proofs.YtcfgpojogomkhaaGreatDoor
