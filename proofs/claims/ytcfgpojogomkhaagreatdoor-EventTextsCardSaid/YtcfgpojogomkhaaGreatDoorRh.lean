/-
  The reference's event.Parse, kind by kind. Condition: the contracts of the callees, as hypotheses.
-/
import Derived.Test.YtcfgpojogomkhaaGreatDoorRg0
namespace Go.Proofs.YtcfgpojogomkhaaGreatDoor
open Go.RowKit

set_option maxHeartbeats 8000000 in
set_option maxRecDepth 100000 in
theorem rparse_1 (s t x0 x1 x2 x3 x4 x5 : ByteArray) (l : List Value) (n : Nat) (v1 v2 f D : Int) (G : Bool) (w : World)
    (L0 : l[0]? = some (.string x0))
    (L1 : l[1]? = some (.string x1))
    (L2 : l[2]? = some (.string x2))
    (L3 : l[3]? = some (.string x3))
    (L4 : l[4]? = some (.string x4))
    (L5 : l[5]? = some (.string x5))
    (t1 : (x0.toList == [102, 105, 120]) = true)
    (hn : n = 6)
    (HC : Hid (∀ W, Calls Tryz.prog 34 #[.string s] W (CutN W n l)))
    (HC1 : Hid (Ca 35 #[.string x1] (.int .i64 v1)))
    (HC2 : Hid (Ca 35 #[.string x2] (.int .i64 v2)))
    (HD : Hid (∀ W, Calls Tryz.prog 36 #[.string x4] W (NumE W D)))
    (HT : Hid (Ca 11 #[.agg #[.int .u8 1, .int .i64 v1, .int .i64 v2, .int .i64 0, .int .i64 D, .string ⟨#[]⟩, .string x3, .string x5, .bool false]] (.tuple #[.string t, .int .i64 f])))
    (hcase : (f = 8 ∧ G = false) ∨ (f = 0 ∧ (t.toList == s.toList) = false ∧ G = false) ∨ (f = 0 ∧ (t.toList == s.toList) = true ∧ G = true)) :
    Calls Tryz.prog 13 #[.string s] w (RpP w (.agg #[.int .u8 1, .int .i64 v1, .int .i64 v2, .int .i64 0, .int .i64 D, .string ⟨#[]⟩, .string x3, .string x5, .bool false]) G) := by
  go_enter Tryz.func13, Tryz.ntmps13
  go_wp2_with fail
  refine (HC.out _).mono ?_
  rintro e wb ⟨r, c, rfl, hr, hrow, hb⟩
  have hz : wb.heap[w.heap.size]? = some (.cells #[.int .u8 0, .int .i64 0, .int .i64 0, .int .i64 0, .int .i64 0, .string ⟨#[]⟩, .string ⟨#[]⟩, .string ⟨#[]⟩, .bool false] 24) := (objNext (B := 0) ⟨Nat.zero_le _, objHere _ _⟩ hb).2
  have B1 : Hid (Below w.heap.size w wb) := (own_below _ _).trans (hb.mono (by simp))
  have hr0 : w.heap.size < r := Nat.lt_of_lt_of_le (by simp) hr
  have HZ := Lib.hid hz
  have HROW := Lib.hid hrow
  have hrl : r < wb.heap.size := hrow.lt
  have e1 : wb.cell? ⟨r, 1, none⟩ = some (.string x1) := (hrow.cell (List.getElem?_eq_some_iff.1 L1).1).trans L1
  have e2 : wb.cell? ⟨r, 2, none⟩ = some (.string x2) := (hrow.cell (List.getElem?_eq_some_iff.1 L2).1).trans L2
  clear hb hz hrow hr
  go_upto_region 4 with (fail)
  go_cut [5] (fun s5 wx => ∃ q, s5 = .pointer (some ⟨q, 0, none⟩) ∧ wb.heap.size ≤ q ∧ wx.heap[q]? = some (.cells #[.int .u8 0, .int .i64 v1, .int .i64 v2, .int .i64 0, .int .i64 0, .string ⟨#[]⟩, .string ⟨#[]⟩, .string ⟨#[]⟩, .bool false] 24) ∧ Below wb.heap.size wb wx)
  case first =>
    have HALL : Hid (∀ W : World, Below wb.heap.size wb W → W.cell? ⟨r, 1, none⟩ = some (.string x1) ∧ W.cell? ⟨r, 2, none⟩ = some (.string x2) ∧ Below wb.heap.size wb W) := fun W h => ⟨((bcell h).1 _ _ hrl).trans e1, ((bcell h).1 _ _ hrl).trans e2, h⟩
    have HNXT : Hid (∀ W W' : World, (W.cell? ⟨r, 1, none⟩ = some (.string x1) ∧ W.cell? ⟨r, 2, none⟩ = some (.string x2) ∧ Below wb.heap.size wb W) → Below W.heap.size W W' → Below wb.heap.size wb W') := fun W W' h h' => h.2.2.trans (h'.mono h.2.2.size)
    have HALC : Hid (∀ (W : World) (O : Obj), (W.cell? ⟨r, 1, none⟩ = some (.string x1) ∧ W.cell? ⟨r, 2, none⟩ = some (.string x2) ∧ Below wb.heap.size wb W) → Below wb.heap.size wb (W.alloc O)) := fun W O h => h.2.2.alloc h.2.2.size O
    have h1n : ¬((n : Int) ≤ 1) := by omega
    have h2n : ¬((n : Int) ≤ 2) := by omega
    have HA0 : Hid (∀ O : Obj, Below wb.heap.size wb (wb.alloc O).drew) := fun O => (own_below wb O).drew
    have HD0 : Hid (Below wb.heap.size wb wb.drew) := (Below.refl _ wb).drew
    clear HT HZ
    go_region_held (fun W => W.cell? ⟨r, 1, none⟩ = some (.string x1) ∧ W.cell? ⟨r, 2, none⟩ = some (.string x2) ∧ Below wb.heap.size wb W)
      ((first | with_reducible exact HALL.out _ (put9_below bn Z.1 _ _ _ _ _ _ _ _ _) | with_reducible exact HALL.out _ bn | with_reducible exact HALL.out _ (HALC.out _ _ (by assumption)) | with_reducible exact HALL.out _ HD0.out | with_reducible exact HALL.out _ (HA0.out _) | with_reducible exact HALL.out _ (Below.alloc bn (Below.size bn) _)))
      ((go_at_call 35; go_must ((first | with_reducible refine (Ca.at HC1.out _).mono ?_ | with_reducible refine (Ca.at HC2.out _).mono ?_); rintro e wf ⟨rfl, bf⟩; have bn := HNXT.out _ _ (by assumption) bf; (first | (with_reducible have Z := objNext Z bf) | (with_reducible have Z := objNewD bf) | (with_reducible have Z := objNew bo bf) | skip); have bo := bn; (first | (obtain ⟨z0, z1, z2, z3, z4, z5, z6, z7, z8⟩ := zcells Z.2; have zf := zfrozen Z.2) | skip))))
    all_goals
      go_wp2_with fail
      go_meet
      first
        | exact ⟨_, rfl, Z.1, put9_heap Z.2 _ _ _ _ _ _ _ _ _, put9_below bn Z.1 _ _ _ _ _ _ _ _ _⟩
        | exact ⟨_, rfl, bn.size, objHere _ _, bn.alloc bn.size _⟩
  case rest =>
  obtain ⟨wd, rfl⟩ : ∃ wd : World, wd = wc := ⟨_, rfl⟩
  obtain ⟨q, rfl, hq, ho, bq⟩ := hcut
  have T0 : Hid (TwoB w q r l #[.int .u8 0, .int .i64 v1, .int .i64 v2, .int .i64 0, .int .i64 0, .string ⟨#[]⟩, .string ⟨#[]⟩, .string ⟨#[]⟩, .bool false] wd) := ⟨by rw [bq.block _ (Nat.lt_trans hr0 hrl)]; exact HZ.out, ho, HROW.out.below bq hrl, B1.out.trans (bq.mono B1.out.size), by omega, by omega, hr0⟩
  clear ho bq hq HZ HROW B1 e1 e2
  have hrq : r ≠ q := Ne.symm T0.out.qr
  have hqr := T0.out.qr
  have hn4 : (n : Int) = 6 := by rw [hn]; rfl
  have m6 : ((n : Int) == 6) = true := by rw [hn4]; decide
  have g0 : ¬((n : Int) ≤ 0) := by omega
  have g1 : ¬((n : Int) ≤ 1) := by omega
  have g2 : ¬((n : Int) ≤ 2) := by omega
  have g3 : ¬((n : Int) ≤ 3) := by omega
  have g4 : ¬((n : Int) ≤ 4) := by omega
  have g5 : ¬((n : Int) ≤ 5) := by omega
  obtain ⟨q0, q1, q2, q3, q4, q5, q6, q7, q8⟩ := zcells T0.out.o
  have qf := zfrozen T0.out.o
  have e0 := (T0.out.row.cell (List.getElem?_eq_some_iff.1 L0).1).trans L0
  have e3 := (T0.out.row.cell (List.getElem?_eq_some_iff.1 L3).1).trans L3
  have e4 := (T0.out.row.cell (List.getElem?_eq_some_iff.1 L4).1).trans L4
  have e5 := (T0.out.row.cell (List.getElem?_eq_some_iff.1 L5).1).trans L5
  go_upto_region 8 with (fail)
  have T1 : Hid (TwoB w q r l #[.int .u8 1, .int .i64 v1, .int .i64 v2, .int .i64 0, .int .i64 0, .string ⟨#[]⟩, .string ⟨#[]⟩, .string ⟨#[]⟩, .bool false] (wd.setCell ⟨q, 0, none⟩ (.int .u8 1))) := T0.out.set 0 _
  generalize wd.setCell ⟨q, 0, none⟩ (.int .u8 1) = W1 at T1 ⊢
  clear q0 q1 q2 q3 q4 q5 q6 q7 q8 qf
  clear e0 e3 e4 e5
  obtain ⟨q0, q1, q2, q3, q4, q5, q6, q7, q8⟩ := zcells T1.out.o
  have qf := zfrozen T1.out.o
  have e0 := (T1.out.row.cell (List.getElem?_eq_some_iff.1 L0).1).trans L0
  have e3 := (T1.out.row.cell (List.getElem?_eq_some_iff.1 L3).1).trans L3
  have e4 := (T1.out.row.cell (List.getElem?_eq_some_iff.1 L4).1).trans L4
  have e5 := (T1.out.row.cell (List.getElem?_eq_some_iff.1 L5).1).trans L5
  go_upto_region 9 with (fail)
  have T2 : Hid (TwoB w q r l #[.int .u8 1, .int .i64 v1, .int .i64 v2, .int .i64 0, .int .i64 0, .string ⟨#[]⟩, .string x3, .string ⟨#[]⟩, .bool false] (W1.setCell ⟨q, 6, none⟩ (.string x3))) := T1.out.set 6 _
  generalize W1.setCell ⟨q, 6, none⟩ (.string x3) = W2 at T2 ⊢
  clear q0 q1 q2 q3 q4 q5 q6 q7 q8 qf
  clear e0 e3 e4 e5
  obtain ⟨q0, q1, q2, q3, q4, q5, q6, q7, q8⟩ := zcells T2.out.o
  have qf := zfrozen T2.out.o
  have e0 := (T2.out.row.cell (List.getElem?_eq_some_iff.1 L0).1).trans L0
  have e3 := (T2.out.row.cell (List.getElem?_eq_some_iff.1 L3).1).trans L3
  have e4 := (T2.out.row.cell (List.getElem?_eq_some_iff.1 L4).1).trans L4
  have e5 := (T2.out.row.cell (List.getElem?_eq_some_iff.1 L5).1).trans L5
  go_wp2_with fail
  refine (HD.out _).mono ?_
  rintro e W2c ⟨⟨qq, rfl⟩, bc⟩
  have T3 := Lib.hid (T2.out.next bc)
  clear q0 q1 q2 q3 q4 q5 q6 q7 q8 qf
  clear e0 e3 e4 e5
  clear bc
  obtain ⟨q0, q1, q2, q3, q4, q5, q6, q7, q8⟩ := zcells T3.out.o
  have qf := zfrozen T3.out.o
  have e0 := (T3.out.row.cell (List.getElem?_eq_some_iff.1 L0).1).trans L0
  have e3 := (T3.out.row.cell (List.getElem?_eq_some_iff.1 L3).1).trans L3
  have e4 := (T3.out.row.cell (List.getElem?_eq_some_iff.1 L4).1).trans L4
  have e5 := (T3.out.row.cell (List.getElem?_eq_some_iff.1 L5).1).trans L5
  go_upto_region 10 with (fail)
  have T4 : Hid (TwoB w q r l #[.int .u8 1, .int .i64 v1, .int .i64 v2, .int .i64 0, .int .i64 D, .string ⟨#[]⟩, .string x3, .string ⟨#[]⟩, .bool false] (W2c.setCell ⟨q, 4, none⟩ (.int .i64 D))) := T3.out.set 4 _
  generalize W2c.setCell ⟨q, 4, none⟩ (.int .i64 D) = W4 at T4 ⊢
  clear q0 q1 q2 q3 q4 q5 q6 q7 q8 qf
  clear e0 e3 e4 e5
  obtain ⟨q0, q1, q2, q3, q4, q5, q6, q7, q8⟩ := zcells T4.out.o
  have qf := zfrozen T4.out.o
  have e0 := (T4.out.row.cell (List.getElem?_eq_some_iff.1 L0).1).trans L0
  have e3 := (T4.out.row.cell (List.getElem?_eq_some_iff.1 L3).1).trans L3
  have e4 := (T4.out.row.cell (List.getElem?_eq_some_iff.1 L4).1).trans L4
  have e5 := (T4.out.row.cell (List.getElem?_eq_some_iff.1 L5).1).trans L5
  go_upto_region 28 with (fail)
  have T5 : Hid (TwoB w q r l #[.int .u8 1, .int .i64 v1, .int .i64 v2, .int .i64 0, .int .i64 D, .string ⟨#[]⟩, .string x3, .string x5, .bool false] (W4.setCell ⟨q, 7, none⟩ (.string x5))) := T4.out.set 7 _
  generalize W4.setCell ⟨q, 7, none⟩ (.string x5) = W5 at T5 ⊢
  clear q0 q1 q2 q3 q4 q5 q6 q7 q8 qf
  clear e0 e3 e4 e5
  obtain ⟨q0, q1, q2, q3, q4, q5, q6, q7, q8⟩ := zcells T5.out.o
  have qf := zfrozen T5.out.o
  have e0 := (T5.out.row.cell (List.getElem?_eq_some_iff.1 L0).1).trans L0
  have e3 := (T5.out.row.cell (List.getElem?_eq_some_iff.1 L3).1).trans L3
  have e4 := (T5.out.row.cell (List.getElem?_eq_some_iff.1 L4).1).trans L4
  have e5 := (T5.out.row.cell (List.getElem?_eq_some_iff.1 L5).1).trans L5
  clear e0 e3 e4 e5
  go_wp2_with fail
  refine (HT.out _).mono ?_
  rintro e wz ⟨rfl, bz⟩
  have T6 := Lib.hid (T5.out.next bz)
  clear q0 q1 q2 q3 q4 q5 q6 q7 q8 qf
  clear bz
  obtain ⟨q0, q1, q2, q3, q4, q5, q6, q7, q8⟩ := zcells T6.out.o
  have qf := zfrozen T6.out.o
  obtain ⟨o0, o1, o2, o3, o4, o5, o6, o7, o8⟩ := zcells T6.out.z
  have of := zfrozen T6.out.z
  rcases hcase with ⟨rfl, rfl⟩ | ⟨rfl, hts, rfl⟩ | ⟨rfl, hts, rfl⟩
  · go_wp2_with fail
    refine bodyPost_ret (results_row_tmp rfl _ _ w.heap.size 24 _ _ rfl (put9_heap T6.out.z _ _ _ _ _ _ _ _ _) Tryz.underlying24 rfl rfl) rfl ?_
    exact ⟨put9_below T6.out.h (Nat.le_refl _) _ _ _ _ _ _ _ _ _, .inr ⟨rfl, rfl⟩⟩
  · go_wp2_with fail
    refine bodyPost_ret (results_row_tmp rfl _ _ w.heap.size 24 _ _ rfl (put9_heap T6.out.z _ _ _ _ _ _ _ _ _) Tryz.underlying24 rfl rfl) rfl ?_
    exact ⟨put9_below T6.out.h (Nat.le_refl _) _ _ _ _ _ _ _ _ _, .inr ⟨rfl, rfl⟩⟩
  · go_wp2_with fail
    refine bodyPost_ret (results_row_tmp rfl _ _ w.heap.size 24 _ _ rfl (put9_heap T6.out.z _ _ _ _ _ _ _ _ _) Tryz.underlying24 rfl rfl) rfl ?_
    exact ⟨put9_below T6.out.h (Nat.le_refl _) _ _ _ _ _ _ _ _ _, .inl ⟨rfl, rfl⟩⟩

set_option maxHeartbeats 8000000 in
set_option maxRecDepth 100000 in
theorem rparse_2 (s t x0 x1 x2 x3 x4 x5 x6 : ByteArray) (l : List Value) (n : Nat) (v1 v2 f D : Int) (b : Bool) (G : Bool) (w : World)
    (L0 : l[0]? = some (.string x0))
    (L1 : l[1]? = some (.string x1))
    (L2 : l[2]? = some (.string x2))
    (L3 : l[3]? = some (.string x3))
    (L4 : l[4]? = some (.string x4))
    (L5 : l[5]? = some (.string x5))
    (L6 : l[6]? = some (.string x6))
    (t1 : (x0.toList == [102, 105, 120]) = false)
    (t2 : (x0.toList == [99, 104, 111, 105, 99, 101]) = true)
    (hn : n = 7)
    (HC : Hid (∀ W, Calls Tryz.prog 34 #[.string s] W (CutN W n l)))
    (HC1 : Hid (Ca 35 #[.string x1] (.int .i64 v1)))
    (HC2 : Hid (Ca 35 #[.string x2] (.int .i64 v2)))
    (HD : Hid (∀ W, Calls Tryz.prog 36 #[.string x5] W (NumE W D)))
    (ty : (x6.toList == [121, 101, 115]) = b)
    (HT : Hid (Ca 11 #[.agg #[.int .u8 2, .int .i64 v1, .int .i64 v2, .int .i64 0, .int .i64 D, .string x3, .string x4, .string ⟨#[]⟩, .bool b]] (.tuple #[.string t, .int .i64 f])))
    (hcase : (f = 8 ∧ G = false) ∨ (f = 0 ∧ (t.toList == s.toList) = false ∧ G = false) ∨ (f = 0 ∧ (t.toList == s.toList) = true ∧ G = true)) :
    Calls Tryz.prog 13 #[.string s] w (RpP w (.agg #[.int .u8 2, .int .i64 v1, .int .i64 v2, .int .i64 0, .int .i64 D, .string x3, .string x4, .string ⟨#[]⟩, .bool b]) G) := by
  go_enter Tryz.func13, Tryz.ntmps13
  go_wp2_with fail
  refine (HC.out _).mono ?_
  rintro e wb ⟨r, c, rfl, hr, hrow, hb⟩
  have hz : wb.heap[w.heap.size]? = some (.cells #[.int .u8 0, .int .i64 0, .int .i64 0, .int .i64 0, .int .i64 0, .string ⟨#[]⟩, .string ⟨#[]⟩, .string ⟨#[]⟩, .bool false] 24) := (objNext (B := 0) ⟨Nat.zero_le _, objHere _ _⟩ hb).2
  have B1 : Hid (Below w.heap.size w wb) := (own_below _ _).trans (hb.mono (by simp))
  have hr0 : w.heap.size < r := Nat.lt_of_lt_of_le (by simp) hr
  have HZ := Lib.hid hz
  have HROW := Lib.hid hrow
  have hrl : r < wb.heap.size := hrow.lt
  have e1 : wb.cell? ⟨r, 1, none⟩ = some (.string x1) := (hrow.cell (List.getElem?_eq_some_iff.1 L1).1).trans L1
  have e2 : wb.cell? ⟨r, 2, none⟩ = some (.string x2) := (hrow.cell (List.getElem?_eq_some_iff.1 L2).1).trans L2
  clear hb hz hrow hr
  go_upto_region 4 with (fail)
  go_cut [5] (fun s5 wx => ∃ q, s5 = .pointer (some ⟨q, 0, none⟩) ∧ wb.heap.size ≤ q ∧ wx.heap[q]? = some (.cells #[.int .u8 0, .int .i64 v1, .int .i64 v2, .int .i64 0, .int .i64 0, .string ⟨#[]⟩, .string ⟨#[]⟩, .string ⟨#[]⟩, .bool false] 24) ∧ Below wb.heap.size wb wx)
  case first =>
    have HALL : Hid (∀ W : World, Below wb.heap.size wb W → W.cell? ⟨r, 1, none⟩ = some (.string x1) ∧ W.cell? ⟨r, 2, none⟩ = some (.string x2) ∧ Below wb.heap.size wb W) := fun W h => ⟨((bcell h).1 _ _ hrl).trans e1, ((bcell h).1 _ _ hrl).trans e2, h⟩
    have HNXT : Hid (∀ W W' : World, (W.cell? ⟨r, 1, none⟩ = some (.string x1) ∧ W.cell? ⟨r, 2, none⟩ = some (.string x2) ∧ Below wb.heap.size wb W) → Below W.heap.size W W' → Below wb.heap.size wb W') := fun W W' h h' => h.2.2.trans (h'.mono h.2.2.size)
    have HALC : Hid (∀ (W : World) (O : Obj), (W.cell? ⟨r, 1, none⟩ = some (.string x1) ∧ W.cell? ⟨r, 2, none⟩ = some (.string x2) ∧ Below wb.heap.size wb W) → Below wb.heap.size wb (W.alloc O)) := fun W O h => h.2.2.alloc h.2.2.size O
    have h1n : ¬((n : Int) ≤ 1) := by omega
    have h2n : ¬((n : Int) ≤ 2) := by omega
    have HA0 : Hid (∀ O : Obj, Below wb.heap.size wb (wb.alloc O).drew) := fun O => (own_below wb O).drew
    have HD0 : Hid (Below wb.heap.size wb wb.drew) := (Below.refl _ wb).drew
    clear HT HZ
    go_region_held (fun W => W.cell? ⟨r, 1, none⟩ = some (.string x1) ∧ W.cell? ⟨r, 2, none⟩ = some (.string x2) ∧ Below wb.heap.size wb W)
      ((first | with_reducible exact HALL.out _ (put9_below bn Z.1 _ _ _ _ _ _ _ _ _) | with_reducible exact HALL.out _ bn | with_reducible exact HALL.out _ (HALC.out _ _ (by assumption)) | with_reducible exact HALL.out _ HD0.out | with_reducible exact HALL.out _ (HA0.out _) | with_reducible exact HALL.out _ (Below.alloc bn (Below.size bn) _)))
      ((go_at_call 35; go_must ((first | with_reducible refine (Ca.at HC1.out _).mono ?_ | with_reducible refine (Ca.at HC2.out _).mono ?_); rintro e wf ⟨rfl, bf⟩; have bn := HNXT.out _ _ (by assumption) bf; (first | (with_reducible have Z := objNext Z bf) | (with_reducible have Z := objNewD bf) | (with_reducible have Z := objNew bo bf) | skip); have bo := bn; (first | (obtain ⟨z0, z1, z2, z3, z4, z5, z6, z7, z8⟩ := zcells Z.2; have zf := zfrozen Z.2) | skip))))
    all_goals
      go_wp2_with fail
      go_meet
      first
        | exact ⟨_, rfl, Z.1, put9_heap Z.2 _ _ _ _ _ _ _ _ _, put9_below bn Z.1 _ _ _ _ _ _ _ _ _⟩
        | exact ⟨_, rfl, bn.size, objHere _ _, bn.alloc bn.size _⟩
  case rest =>
  obtain ⟨wd, rfl⟩ : ∃ wd : World, wd = wc := ⟨_, rfl⟩
  obtain ⟨q, rfl, hq, ho, bq⟩ := hcut
  have T0 : Hid (TwoB w q r l #[.int .u8 0, .int .i64 v1, .int .i64 v2, .int .i64 0, .int .i64 0, .string ⟨#[]⟩, .string ⟨#[]⟩, .string ⟨#[]⟩, .bool false] wd) := ⟨by rw [bq.block _ (Nat.lt_trans hr0 hrl)]; exact HZ.out, ho, HROW.out.below bq hrl, B1.out.trans (bq.mono B1.out.size), by omega, by omega, hr0⟩
  clear ho bq hq HZ HROW B1 e1 e2
  have hrq : r ≠ q := Ne.symm T0.out.qr
  have hqr := T0.out.qr
  have hn4 : (n : Int) = 7 := by rw [hn]; rfl
  have m6 : ((n : Int) == 6) = false := by rw [hn4]; decide
  have m7 : ((n : Int) == 7) = true := by rw [hn4]; decide
  have g0 : ¬((n : Int) ≤ 0) := by omega
  have g1 : ¬((n : Int) ≤ 1) := by omega
  have g2 : ¬((n : Int) ≤ 2) := by omega
  have g3 : ¬((n : Int) ≤ 3) := by omega
  have g4 : ¬((n : Int) ≤ 4) := by omega
  have g5 : ¬((n : Int) ≤ 5) := by omega
  have g6 : ¬((n : Int) ≤ 6) := by omega
  obtain ⟨q0, q1, q2, q3, q4, q5, q6, q7, q8⟩ := zcells T0.out.o
  have qf := zfrozen T0.out.o
  have e0 := (T0.out.row.cell (List.getElem?_eq_some_iff.1 L0).1).trans L0
  have e3 := (T0.out.row.cell (List.getElem?_eq_some_iff.1 L3).1).trans L3
  have e4 := (T0.out.row.cell (List.getElem?_eq_some_iff.1 L4).1).trans L4
  have e5 := (T0.out.row.cell (List.getElem?_eq_some_iff.1 L5).1).trans L5
  have e6 := (T0.out.row.cell (List.getElem?_eq_some_iff.1 L6).1).trans L6
  go_upto_region 13 with (fail)
  have T1 : Hid (TwoB w q r l #[.int .u8 2, .int .i64 v1, .int .i64 v2, .int .i64 0, .int .i64 0, .string ⟨#[]⟩, .string ⟨#[]⟩, .string ⟨#[]⟩, .bool false] (wd.setCell ⟨q, 0, none⟩ (.int .u8 2))) := T0.out.set 0 _
  generalize wd.setCell ⟨q, 0, none⟩ (.int .u8 2) = W1 at T1 ⊢
  clear q0 q1 q2 q3 q4 q5 q6 q7 q8 qf
  clear e0 e3 e4 e5 e6
  obtain ⟨q0, q1, q2, q3, q4, q5, q6, q7, q8⟩ := zcells T1.out.o
  have qf := zfrozen T1.out.o
  have e0 := (T1.out.row.cell (List.getElem?_eq_some_iff.1 L0).1).trans L0
  have e3 := (T1.out.row.cell (List.getElem?_eq_some_iff.1 L3).1).trans L3
  have e4 := (T1.out.row.cell (List.getElem?_eq_some_iff.1 L4).1).trans L4
  have e5 := (T1.out.row.cell (List.getElem?_eq_some_iff.1 L5).1).trans L5
  have e6 := (T1.out.row.cell (List.getElem?_eq_some_iff.1 L6).1).trans L6
  go_upto_region 14 with (fail)
  have T2 : Hid (TwoB w q r l #[.int .u8 2, .int .i64 v1, .int .i64 v2, .int .i64 0, .int .i64 0, .string x3, .string ⟨#[]⟩, .string ⟨#[]⟩, .bool false] (W1.setCell ⟨q, 5, none⟩ (.string x3))) := T1.out.set 5 _
  generalize W1.setCell ⟨q, 5, none⟩ (.string x3) = W2 at T2 ⊢
  clear q0 q1 q2 q3 q4 q5 q6 q7 q8 qf
  clear e0 e3 e4 e5 e6
  obtain ⟨q0, q1, q2, q3, q4, q5, q6, q7, q8⟩ := zcells T2.out.o
  have qf := zfrozen T2.out.o
  have e0 := (T2.out.row.cell (List.getElem?_eq_some_iff.1 L0).1).trans L0
  have e3 := (T2.out.row.cell (List.getElem?_eq_some_iff.1 L3).1).trans L3
  have e4 := (T2.out.row.cell (List.getElem?_eq_some_iff.1 L4).1).trans L4
  have e5 := (T2.out.row.cell (List.getElem?_eq_some_iff.1 L5).1).trans L5
  have e6 := (T2.out.row.cell (List.getElem?_eq_some_iff.1 L6).1).trans L6
  go_upto_region 15 with (fail)
  have T3 : Hid (TwoB w q r l #[.int .u8 2, .int .i64 v1, .int .i64 v2, .int .i64 0, .int .i64 0, .string x3, .string x4, .string ⟨#[]⟩, .bool false] (W2.setCell ⟨q, 6, none⟩ (.string x4))) := T2.out.set 6 _
  generalize W2.setCell ⟨q, 6, none⟩ (.string x4) = W3 at T3 ⊢
  clear q0 q1 q2 q3 q4 q5 q6 q7 q8 qf
  clear e0 e3 e4 e5 e6
  obtain ⟨q0, q1, q2, q3, q4, q5, q6, q7, q8⟩ := zcells T3.out.o
  have qf := zfrozen T3.out.o
  have e0 := (T3.out.row.cell (List.getElem?_eq_some_iff.1 L0).1).trans L0
  have e3 := (T3.out.row.cell (List.getElem?_eq_some_iff.1 L3).1).trans L3
  have e4 := (T3.out.row.cell (List.getElem?_eq_some_iff.1 L4).1).trans L4
  have e5 := (T3.out.row.cell (List.getElem?_eq_some_iff.1 L5).1).trans L5
  have e6 := (T3.out.row.cell (List.getElem?_eq_some_iff.1 L6).1).trans L6
  go_wp2_with fail
  refine (HD.out _).mono ?_
  rintro e W3c ⟨⟨qq, rfl⟩, bc⟩
  have T4 := Lib.hid (T3.out.next bc)
  clear q0 q1 q2 q3 q4 q5 q6 q7 q8 qf
  clear e0 e3 e4 e5 e6
  clear bc
  obtain ⟨q0, q1, q2, q3, q4, q5, q6, q7, q8⟩ := zcells T4.out.o
  have qf := zfrozen T4.out.o
  have e0 := (T4.out.row.cell (List.getElem?_eq_some_iff.1 L0).1).trans L0
  have e3 := (T4.out.row.cell (List.getElem?_eq_some_iff.1 L3).1).trans L3
  have e4 := (T4.out.row.cell (List.getElem?_eq_some_iff.1 L4).1).trans L4
  have e5 := (T4.out.row.cell (List.getElem?_eq_some_iff.1 L5).1).trans L5
  have e6 := (T4.out.row.cell (List.getElem?_eq_some_iff.1 L6).1).trans L6
  go_upto_region 16 with (fail)
  have T5 : Hid (TwoB w q r l #[.int .u8 2, .int .i64 v1, .int .i64 v2, .int .i64 0, .int .i64 D, .string x3, .string x4, .string ⟨#[]⟩, .bool false] (W3c.setCell ⟨q, 4, none⟩ (.int .i64 D))) := T4.out.set 4 _
  generalize W3c.setCell ⟨q, 4, none⟩ (.int .i64 D) = W5 at T5 ⊢
  clear q0 q1 q2 q3 q4 q5 q6 q7 q8 qf
  clear e0 e3 e4 e5 e6
  obtain ⟨q0, q1, q2, q3, q4, q5, q6, q7, q8⟩ := zcells T5.out.o
  have qf := zfrozen T5.out.o
  have e0 := (T5.out.row.cell (List.getElem?_eq_some_iff.1 L0).1).trans L0
  have e3 := (T5.out.row.cell (List.getElem?_eq_some_iff.1 L3).1).trans L3
  have e4 := (T5.out.row.cell (List.getElem?_eq_some_iff.1 L4).1).trans L4
  have e5 := (T5.out.row.cell (List.getElem?_eq_some_iff.1 L5).1).trans L5
  have e6 := (T5.out.row.cell (List.getElem?_eq_some_iff.1 L6).1).trans L6
  go_upto_region 28 with (fail)
  have T6 : Hid (TwoB w q r l #[.int .u8 2, .int .i64 v1, .int .i64 v2, .int .i64 0, .int .i64 D, .string x3, .string x4, .string ⟨#[]⟩, .bool b] (W5.setCell ⟨q, 8, none⟩ (.bool b))) := T5.out.set 8 _
  generalize W5.setCell ⟨q, 8, none⟩ (.bool b) = W6 at T6 ⊢
  clear q0 q1 q2 q3 q4 q5 q6 q7 q8 qf
  clear e0 e3 e4 e5 e6
  obtain ⟨q0, q1, q2, q3, q4, q5, q6, q7, q8⟩ := zcells T6.out.o
  have qf := zfrozen T6.out.o
  have e0 := (T6.out.row.cell (List.getElem?_eq_some_iff.1 L0).1).trans L0
  have e3 := (T6.out.row.cell (List.getElem?_eq_some_iff.1 L3).1).trans L3
  have e4 := (T6.out.row.cell (List.getElem?_eq_some_iff.1 L4).1).trans L4
  have e5 := (T6.out.row.cell (List.getElem?_eq_some_iff.1 L5).1).trans L5
  have e6 := (T6.out.row.cell (List.getElem?_eq_some_iff.1 L6).1).trans L6
  clear e0 e3 e4 e5 e6
  go_wp2_with fail
  refine (HT.out _).mono ?_
  rintro e wz ⟨rfl, bz⟩
  have T7 := Lib.hid (T6.out.next bz)
  clear q0 q1 q2 q3 q4 q5 q6 q7 q8 qf
  clear bz
  obtain ⟨q0, q1, q2, q3, q4, q5, q6, q7, q8⟩ := zcells T7.out.o
  have qf := zfrozen T7.out.o
  obtain ⟨o0, o1, o2, o3, o4, o5, o6, o7, o8⟩ := zcells T7.out.z
  have of := zfrozen T7.out.z
  rcases hcase with ⟨rfl, rfl⟩ | ⟨rfl, hts, rfl⟩ | ⟨rfl, hts, rfl⟩
  · go_wp2_with fail
    refine bodyPost_ret (results_row_tmp rfl _ _ w.heap.size 24 _ _ rfl (put9_heap T7.out.z _ _ _ _ _ _ _ _ _) Tryz.underlying24 rfl rfl) rfl ?_
    exact ⟨put9_below T7.out.h (Nat.le_refl _) _ _ _ _ _ _ _ _ _, .inr ⟨rfl, rfl⟩⟩
  · go_wp2_with fail
    refine bodyPost_ret (results_row_tmp rfl _ _ w.heap.size 24 _ _ rfl (put9_heap T7.out.z _ _ _ _ _ _ _ _ _) Tryz.underlying24 rfl rfl) rfl ?_
    exact ⟨put9_below T7.out.h (Nat.le_refl _) _ _ _ _ _ _ _ _ _, .inr ⟨rfl, rfl⟩⟩
  · go_wp2_with fail
    refine bodyPost_ret (results_row_tmp rfl _ _ w.heap.size 24 _ _ rfl (put9_heap T7.out.z _ _ _ _ _ _ _ _ _) Tryz.underlying24 rfl rfl) rfl ?_
    exact ⟨put9_below T7.out.h (Nat.le_refl _) _ _ _ _ _ _ _ _ _, .inl ⟨rfl, rfl⟩⟩


end Go.Proofs.YtcfgpojogomkhaaGreatDoor
