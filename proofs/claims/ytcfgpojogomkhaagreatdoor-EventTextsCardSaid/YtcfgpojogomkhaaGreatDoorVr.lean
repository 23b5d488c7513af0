/-
  cmp.Compare at the kinds of an event's fields, number, first. No condition. An event that came in, opened. No condition. Long over events. No condition. Plain laws: the order of events is total. No program in sight.
-/
import Derived.Test.YtcfgpojogomkhaaGreatDoorRows
import Derived.Test.YtcfgpojogomkhaaGreatDoorVa
import Derived.StillTailTactics
import Derived.Deep.Slices
import Derived.ChangeArms
import Derived.ChangeSame
import Derived.ChangeShapes
namespace Go.Proofs.YtcfgpojogomkhaaGreatDoor
open Go.RowKit

def cmpI (x y : Int) : Int := if x < y then -1 else if y < x then 1 else 0
def cmpS (a b : ByteArray) : Int := if Op.bytesLess a.toList b.toList = true then -1 else if (a.toList == b.toList) = true then 0 else 1
def numB (b : Bool) : Int := if b then 1 else 0
theorem cmpI_lt {x y : Int} (h : x < y) : cmpI x y = -1 := by unfold cmpI; rw [if_pos h]
theorem cmpI_gt {x y : Int} (h : y < x) : cmpI x y = 1 := by unfold cmpI; rw [if_neg (by omega), if_pos h]
theorem cmpI_eq {x : Int} : cmpI x x = 0 := by unfold cmpI; rw [if_neg (by omega), if_neg (by omega)]

set_option maxHeartbeats 400000 in
theorem cmpInt (x y : Int) (w : World) : Calls Tryz.prog 38 #[.int .i64 x, .int .i64 y] w fun e w' => e = .returned (.int .i64 (cmpI x y)) ∧ w' = w := by
  rcases Int.lt_trichotomy x y with h | h | h
  · have e := Lib.hid (cmpI_lt h)
    go_enter Tryz.func38, Tryz.ntmps38
    go_wp2
    go_ret
    exact ⟨ret_int e.out.symm, rfl⟩
  · subst h
    have e := Lib.hid (cmpI_eq (x := x))
    go_enter Tryz.func38, Tryz.ntmps38
    go_wp2
    go_ret
    exact ⟨ret_int e.out.symm, rfl⟩
  · have e := Lib.hid (cmpI_gt h)
    go_enter Tryz.func38, Tryz.ntmps38
    go_wp2
    go_ret
    exact ⟨ret_int e.out.symm, rfl⟩
set_option maxHeartbeats 400000 in
theorem cmpU8 (x y : Int) (w : World) : Calls Tryz.prog 39 #[.int .u8 x, .int .u8 y] w fun e w' => e = .returned (.int .i64 (cmpI x y)) ∧ w' = w := by
  rcases Int.lt_trichotomy x y with h | h | h
  · have e := Lib.hid (cmpI_lt h)
    go_enter Tryz.func39, Tryz.ntmps39
    go_wp2
    go_ret
    exact ⟨ret_int e.out.symm, rfl⟩
  · subst h
    have e := Lib.hid (cmpI_eq (x := x))
    go_enter Tryz.func39, Tryz.ntmps39
    go_wp2
    go_ret
    exact ⟨ret_int e.out.symm, rfl⟩
  · have e := Lib.hid (cmpI_gt h)
    go_enter Tryz.func39, Tryz.ntmps39
    go_wp2
    go_ret
    exact ⟨ret_int e.out.symm, rfl⟩
set_option maxHeartbeats 400000 in
theorem cmpStr (a b : ByteArray) (w : World) : Calls Tryz.prog 40 #[.string a, .string b] w fun e w' => e = .returned (.int .i64 (cmpS a b)) ∧ w' = w := by
  by_cases h : Op.bytesLess a.toList b.toList = true
  · have e : Hid (cmpS a b = -1) := by show _ = _; unfold cmpS; rw [if_pos h]
    go_enter Tryz.func40, Tryz.ntmps40
    go_wp2
    go_ret
    exact ⟨ret_int e.out.symm, rfl⟩
  · have h : Op.bytesLess a.toList b.toList = false := by simpa using h
    by_cases h2 : (a.toList == b.toList) = true
    · have e : Hid (cmpS a b = 0) := by show _ = _; unfold cmpS; rw [if_neg (by simp [h]), if_pos h2]
      go_enter Tryz.func40, Tryz.ntmps40
      go_wp2
      go_ret
      exact ⟨ret_int e.out.symm, rfl⟩
    · have h2 : (a.toList == b.toList) = false := by simpa using h2
      have e : Hid (cmpS a b = 1) := by show _ = _; unfold cmpS; rw [if_neg (by simp [h]), if_neg (by simp [h2])]
      go_enter Tryz.func40, Tryz.ntmps40
      go_wp2
      go_ret
      exact ⟨ret_int e.out.symm, rfl⟩

set_option maxHeartbeats 400000 in
theorem cmpRat (a b : ByteArray) (w : World) : Calls Tryz.prog 41 #[.string a, .string b] w fun e w' => e = .returned (.int .i64 (cmpS a b)) ∧ w' = w := by
  by_cases h : Op.bytesLess a.toList b.toList = true
  · have e : Hid (cmpS a b = -1) := by show _ = _; unfold cmpS; rw [if_pos h]
    go_enter Tryz.func41, Tryz.ntmps41
    go_wp2
    go_ret
    exact ⟨ret_int e.out.symm, rfl⟩
  · have h : Op.bytesLess a.toList b.toList = false := by simpa using h
    by_cases h2 : (a.toList == b.toList) = true
    · have e : Hid (cmpS a b = 0) := by show _ = _; unfold cmpS; rw [if_neg (by simp [h]), if_pos h2]
      go_enter Tryz.func41, Tryz.ntmps41
      go_wp2
      go_ret
      exact ⟨ret_int e.out.symm, rfl⟩
    · have h2 : (a.toList == b.toList) = false := by simpa using h2
      have e : Hid (cmpS a b = 1) := by show _ = _; unfold cmpS; rw [if_neg (by simp [h]), if_neg (by simp [h2])]
      go_enter Tryz.func41, Tryz.ntmps41
      go_wp2
      go_ret
      exact ⟨ret_int e.out.symm, rfl⟩


set_option maxHeartbeats 400000 in
theorem number_any (b : Bool) (w : World) : Calls Tryz.prog 42 #[.bool b] w fun e w' => e = .returned (.int .i64 (numB b)) ∧ w' = w := by
  cases b
  · go_enter Tryz.func42, Tryz.ntmps42
    go_wp2
    go_ret
    exact ⟨rfl, rfl⟩
  · go_enter Tryz.func42, Tryz.ntmps42
    go_wp2
    go_ret
    exact ⟨rfl, rfl⟩

def firstNZ : List Int → Int
  | [] => 0
  | x :: l => if x = 0 then firstNZ l else x
theorem firstNZ_at (l : List Int) (k : Nat) (hk : k < l.length) (h0 : ∀ j, j < k → l[j]?.getD 0 = 0) (h : l[k]?.getD 0 ≠ 0) : firstNZ l = l[k]?.getD 0 := by
  induction l generalizing k with
  | nil => simp at hk
  | cons x l ih =>
    cases k with
    | zero => simp at h; simp [firstNZ, h]
    | succ k =>
      have hx : x = 0 := by simpa using h0 0 (by omega)
      rw [firstNZ, if_pos hx, ih k (by simpa using hk) (fun j hj => by simpa using h0 (j + 1) (by omega)) (by simpa using h)]
      simp
theorem firstNZ_none (l : List Int) (h0 : ∀ j, j < l.length → l[j]?.getD 0 = 0) : firstNZ l = 0 := by
  induction l with
  | nil => rfl
  | cons x l ih =>
    have hx : x = 0 := by simpa using h0 0 (by simp)
    rw [firstNZ, if_pos hx, ih (fun j hj => by simpa using h0 (j + 1) (by simpa using hj))]

set_option maxHeartbeats 400000 in
theorem first_any (g c n : Nat) (l : List Int) (w : World) (hl : l.length = n) (hn : n ≤ 1000000) (hc : ∀ i, i < n → w.cell? ⟨g, i, none⟩ = some (.int .i64 (l[i]?.getD 0))) :
    Calls Tryz.prog 37 #[.slice (some ⟨g, 0, none⟩) n c] w fun e w' => e = .returned (.int .i64 (firstNZ l)) ∧ w' = w := by
  have HL := Lib.hid hl
  have HC := Lib.hid hc
  clear hl hc
  go_enter Tryz.func37, Tryz.ntmps37
  go_wp2
  go_loop [4, 7] (fun _ i => ∃ k : Nat, k ≤ n ∧ i = .int .i64 k ∧ Hid (∀ j, j < k → l[j]?.getD 0 = 0)) (fun _ i => n - (intOf i).toNat)
  case atStart => exact ⟨0, Nat.zero_le _, rfl, fun j hj => absurd hj (Nat.not_lt_zero _)⟩
  case round =>
    obtain ⟨k, hk, rfl, h0⟩ := hrel
    by_cases hlt : k < n
    · have g1 := HC.out k hlt
      by_cases hz : l[k]?.getD 0 = 0
      · have hz1 : (l[k]?.getD 0 != 0) = false := by simpa using hz
        have h0' : Hid (∀ j, j < k + 1 → l[j]?.getD 0 = 0) := fun j hj => by
          by_cases e : j = k
          · subst e; exact hz
          · exact h0.out j (by omega)
        clear hz
        go_wp2
        go_round
        case rel => exact ⟨k + 1, by omega, by go_num, h0'⟩
        case measure => simp [intOf]; omega
      · have hz1 : (l[k]?.getD 0 != 0) = true := by simpa using hz
        have e := Lib.hid (firstNZ_at l k (by have := HL.out; omega) h0.out hz)
        clear hz
        go_wp2
        go_ret
        exact ⟨ret_int e.out.symm, rfl⟩
    · have e := Lib.hid (firstNZ_none l (fun j hj => h0.out j (by have := HL.out; omega)))
      go_wp2
      go_ret
      exact ⟨ret_int e.out.symm, rfl⟩

structure Ev where
  kind : Int
  id : Int
  entry : Int
  target : Int
  date : Int
  party : ByteArray
  name : ByteArray
  value : ByteArray
  first : Bool
instance : Inhabited Ev := ⟨⟨0, 0, 0, 0, 0, ByteArray.empty, ByteArray.empty, ByteArray.empty, false⟩⟩
def encEv (x : Ev) : List Value := [.int .u8 x.kind, .int .i64 x.id, .int .i64 x.entry, .int .i64 x.target, .int .i64 x.date, .string x.party, .string x.name, .string x.value, .bool x.first]
def cmpL (x y : Ev) : List Int := [cmpI x.entry y.entry, cmpI x.id y.id, cmpI x.kind y.kind, cmpI x.target y.target, cmpI x.date y.date, cmpS x.party y.party, cmpS x.name y.name, cmpS x.value y.value, numB x.first - numB y.first]
def cmpEv (x y : Ev) : Int := firstNZ (cmpL x y)

set_option maxHeartbeats 1000000 in
set_option maxRecDepth 100000 in
theorem compare_any (k1 i1 e1 t1 d1 k2 i2 e2 t2 d2 : Int) (p1 n1 v1 p2 n2 v2 : ByteArray) (f1 f2 : Bool) (w : World) :
    Calls Tryz.prog 15 #[.agg #[.int .u8 k1, .int .i64 i1, .int .i64 e1, .int .i64 t1, .int .i64 d1, .string p1, .string n1, .string v1, .bool f1],
      .agg #[.int .u8 k2, .int .i64 i2, .int .i64 e2, .int .i64 t2, .int .i64 d2, .string p2, .string n2, .string v2, .bool f2]] w fun e w' =>
      e = .returned (.int .i64 (cmpEv ⟨k1, i1, e1, t1, d1, p1, n1, v1, f1⟩ ⟨k2, i2, e2, t2, d2, p2, n2, v2, f2⟩)) ∧ ∃ o1 o2 o3 : Obj, w' = ((w.alloc o1).alloc o2).drew.alloc o3 := by
  obtain ⟨w2, hw2⟩ : ∃ w2, w2 = ((w.alloc (.cells #[.int .u8 k1, .int .i64 i1, .int .i64 e1, .int .i64 t1, .int .i64 d1, .string p1, .string n1, .string v1, .bool f1] 24)).alloc (.cells #[.int .u8 k2, .int .i64 i2, .int .i64 e2, .int .i64 t2, .int .i64 d2, .string p2, .string n2, .string v2, .bool f2] 24)).drew := ⟨_, rfl⟩
  have a0 : w2.cell? ⟨w.heap.size, 0, none⟩ = some (.int .u8 k1) := by rw [hw2]; simp [go_sem, World.cell?_alloc_past]
  have a1 : w2.cell? ⟨w.heap.size, 1, none⟩ = some (.int .i64 i1) := by rw [hw2]; simp [go_sem, World.cell?_alloc_past]
  have a2 : w2.cell? ⟨w.heap.size, 2, none⟩ = some (.int .i64 e1) := by rw [hw2]; simp [go_sem, World.cell?_alloc_past]
  have a3 : w2.cell? ⟨w.heap.size, 3, none⟩ = some (.int .i64 t1) := by rw [hw2]; simp [go_sem, World.cell?_alloc_past]
  have a4 : w2.cell? ⟨w.heap.size, 4, none⟩ = some (.int .i64 d1) := by rw [hw2]; simp [go_sem, World.cell?_alloc_past]
  have a5 : w2.cell? ⟨w.heap.size, 5, none⟩ = some (.string p1) := by rw [hw2]; simp [go_sem, World.cell?_alloc_past]
  have a6 : w2.cell? ⟨w.heap.size, 6, none⟩ = some (.string n1) := by rw [hw2]; simp [go_sem, World.cell?_alloc_past]
  have a7 : w2.cell? ⟨w.heap.size, 7, none⟩ = some (.string v1) := by rw [hw2]; simp [go_sem, World.cell?_alloc_past]
  have a8 : w2.cell? ⟨w.heap.size, 8, none⟩ = some (.bool f1) := by rw [hw2]; simp [go_sem, World.cell?_alloc_past]
  have b0 : w2.cell? ⟨w.heap.size + 1, 0, none⟩ = some (.int .u8 k2) := by rw [hw2]; simp [go_sem]
  have b1 : w2.cell? ⟨w.heap.size + 1, 1, none⟩ = some (.int .i64 i2) := by rw [hw2]; simp [go_sem]
  have b2 : w2.cell? ⟨w.heap.size + 1, 2, none⟩ = some (.int .i64 e2) := by rw [hw2]; simp [go_sem]
  have b3 : w2.cell? ⟨w.heap.size + 1, 3, none⟩ = some (.int .i64 t2) := by rw [hw2]; simp [go_sem]
  have b4 : w2.cell? ⟨w.heap.size + 1, 4, none⟩ = some (.int .i64 d2) := by rw [hw2]; simp [go_sem]
  have b5 : w2.cell? ⟨w.heap.size + 1, 5, none⟩ = some (.string p2) := by rw [hw2]; simp [go_sem]
  have b6 : w2.cell? ⟨w.heap.size + 1, 6, none⟩ = some (.string n2) := by rw [hw2]; simp [go_sem]
  have b7 : w2.cell? ⟨w.heap.size + 1, 7, none⟩ = some (.string v2) := by rw [hw2]; simp [go_sem]
  have b8 : w2.cell? ⟨w.heap.size + 1, 8, none⟩ = some (.bool f2) := by rw [hw2]; simp [go_sem]
  have HW2 := Lib.hid hw2
  have nb1 : 0 ≤ numB f1 := by unfold numB; split <;> omega
  have nb2 : numB f1 ≤ 1 := by unfold numB; split <;> omega
  have nb3 : 0 ≤ numB f2 := by unfold numB; split <;> omega
  have nb4 : numB f2 ≤ 1 := by unfold numB; split <;> omega
  clear hw2
  go_enter Tryz.func15, Tryz.ntmps15
  go_wp2_with fail
  refine wp_region_still_tail 47 (by kernel_rfl) (by kernel_rfl) ?_
  simp only [List.take_succ_cons, List.take_zero, List.drop_succ_cons, List.drop_zero]
  change wpStill Tryz.prog _ (((w.alloc (.cells #[.int .u8 k1, .int .i64 i1, .int .i64 e1, .int .i64 t1, .int .i64 d1, .string p1, .string n1, .string v1, .bool f1] 24)).alloc (.cells #[.int .u8 k2, .int .i64 i2, .int .i64 e2, .int .i64 t2, .int .i64 d2, .string p2, .string n2, .string v2, .bool f2] 24)).drew) _ _ _
  rw [← HW2.out]
  iterate 4 still_step
  still_call (cmpInt _ _ _)
  iterate 4 still_step
  still_call (cmpInt _ _ _)
  iterate 4 still_step
  still_call (cmpU8 _ _ _)
  iterate 4 still_step
  still_call (cmpInt _ _ _)
  iterate 4 still_step
  still_call (cmpInt _ _ _)
  iterate 4 still_step
  still_call (cmpStr _ _ _)
  iterate 4 still_step
  still_call (cmpStr _ _ _)
  iterate 4 still_step
  still_call (cmpRat _ _ _)
  iterate 2 still_step
  still_call (number_any _ _)
  iterate 2 still_step
  still_call (number_any _ _)
  still_step
  refine wpStill_nil ?_
  change wpList Tryz.prog _ _ _ _ (((w.alloc (.cells #[.int .u8 k1, .int .i64 i1, .int .i64 e1, .int .i64 t1, .int .i64 d1, .string p1, .string n1, .string v1, .bool f1] 24)).alloc (.cells #[.int .u8 k2, .int .i64 i2, .int .i64 e2, .int .i64 t2, .int .i64 d2, .string p2, .string n2, .string v2, .bool f2] 24)).drew)
  rw [← HW2.out]
  have hz : w2.heap.size = w.heap.size + 1 + 1 := by rw [HW2.out]; simp [World.drew]
  have hrow : ∀ c : Array Value, RowAt (w2.alloc (.cells c 3)) w2.heap.size 3 c.toList := fun c => rowAt_alloc rfl rfl
  clear a0 a1 a2 a3 a4 a5 a6 a7 a8 b0 b1 b2 b3 b4 b5 b6 b7 b8 hz
  go_wp2_with fail
  refine (first_any w2.heap.size 9 9 [cmpI e1 e2, cmpI i1 i2, cmpI k1 k2, cmpI t1 t2, cmpI d1 d2, cmpS p1 p2, cmpS n1 n2, cmpS v1 v2, numB f1 - numB f2] _ rfl (by omega) (fun i hi => ?_)).mono ?_
  · rw [(hrow _).cell (by simpa using hi)]
    exact ints_get [cmpI e1 e2, cmpI i1 i2, cmpI k1 k2, cmpI t1 t2, cmpI d1 d2, cmpS p1 p2, cmpS n1 n2, cmpS v1 v2, numB f1 - numB f2] i hi
  · rintro e w' ⟨rfl, rfl⟩
    go_wp2_with fail
    go_ret
    exact ⟨rfl, .cells #[.int .u8 k1, .int .i64 i1, .int .i64 e1, .int .i64 t1, .int .i64 d1, .string p1, .string n1, .string v1, .bool f1] 24, .cells #[.int .u8 k2, .int .i64 i2, .int .i64 e2, .int .i64 t2, .int .i64 d2, .string p2, .string n2, .string v2, .bool f2] 24, _, by rw [HW2.out]⟩

end Go.Proofs.YtcfgpojogomkhaaGreatDoor

namespace Go.Proofs.YtcfgpojogomkhaaGreatDoor
open Go.RowKit Go.ChangeShapes Go.WideShapes Go.Deep

theorem cellsOfX26 : Tryz.prog.cellsOf 24 = 9 := by kernel_rfl
theorem cellsOfX3 : Tryz.prog.cellsOf 3 = 1 := by kernel_rfl
theorem cellsOfX4 : Tryz.prog.cellsOf 4 = 1 := by kernel_rfl
theorem cellsOfX5 : Tryz.prog.cellsOf 5 = 1 := by kernel_rfl
theorem cellsOfX9 : Tryz.prog.cellsOf 9 = 1 := by kernel_rfl
theorem cellsOfX24 : Tryz.prog.cellsOf 22 = 1 := by kernel_rfl
set_option maxRecDepth 100000 in
/-- One event, opened. -/
theorem open_event {H : Type} {enc : TypeId × Value → H} {w : World} {base : Nat} {spare : Nat → Bool} {held : Bool} {fuel : Nat} {cs : List Value} {x : DataW H × List MemPlace}
    (h : DataW.trod enc Tryz.prog w base spare held fuel 24 cs = some x) : ∃ v : Ev, cs = encEv v ∧ 0 ≤ v.kind ∧ v.kind ≤ 255 := by
  obtain ⟨xs, n, _, _, hlen, hxl, hf⟩ := DataW.trod_struct Tryz.underlying24 h
  rw [cellsOfX26] at hlen
  match cs, hlen with
  | [c0, c1, c2, c3, c4, c5, c6, c7, c8], _ =>
    match xs, hxl with
    | [y0, y1, y2, y3, y4, y5, y6, y7, y8], _ =>
      have h0 := hf 0 ⟨"Kind", 5, 0, false, "", "", 0⟩ rfl
      have h1 := hf 1 ⟨"Id", 3, 1, false, "", "", 8⟩ rfl
      have h2 := hf 2 ⟨"Entry", 3, 2, false, "", "", 16⟩ rfl
      have h3 := hf 3 ⟨"Target", 3, 3, false, "", "", 24⟩ rfl
      have h4 := hf 4 ⟨"Date", 3, 4, false, "", "", 32⟩ rfl
      have h5 := hf 5 ⟨"Party", 9, 5, false, "", "", 40⟩ rfl
      have h6 := hf 6 ⟨"Name", 9, 6, false, "", "", 56⟩ rfl
      have h7 := hf 7 ⟨"Value", 22, 7, false, "", "", 72⟩ rfl
      have h8 := hf 8 ⟨"First", 4, 8, false, "", "", 88⟩ rfl
      simp only [cellsOfX3, cellsOfX4, cellsOfX5, cellsOfX9, cellsOfX24, List.drop_succ_cons, List.drop_zero, List.take_succ_cons, List.take_zero, List.getElem?_cons_succ, List.getElem?_cons_zero] at h0 h1 h2 h3 h4 h5 h6 h7 h8
      obtain ⟨k, e0, _, wk⟩ := DataW.trod_int Tryz.underlying5 h0
      obtain ⟨n1, e1, _, _⟩ := DataW.trod_int Tryz.underlying3 h1
      obtain ⟨n2, e2, _, _⟩ := DataW.trod_int Tryz.underlying3 h2
      obtain ⟨n3, e3, _, _⟩ := DataW.trod_int Tryz.underlying3 h3
      obtain ⟨n4, e4, _, _⟩ := DataW.trod_int Tryz.underlying3 h4
      obtain ⟨s5, e5, _, _⟩ := DataW.trod_string Tryz.underlying9 h5
      obtain ⟨s6, e6, _, _⟩ := DataW.trod_string Tryz.underlying9 h6
      obtain ⟨s7, e7, _, _⟩ := DataW.trod_string Tryz.underlying22 h7
      obtain ⟨b8, e8, _⟩ := DataW.trod_bool Tryz.underlying4 h8
      simp only [List.cons.injEq, and_true] at e0 e1 e2 e3 e4 e5 e6 e7 e8
      subst e0 e1 e2 e3 e4 e5 e6 e7 e8
      refine ⟨⟨k, n1, n2, n3, n4, s5, s6, s7, b8⟩, rfl, ?_⟩
      have wk' : IntKind.u8.min ≤ k ∧ k ≤ IntKind.u8.max := by simpa [Lit.wf] using wk
      exact wk'

end Go.Proofs.YtcfgpojogomkhaaGreatDoor

namespace Go.Proofs.YtcfgpojogomkhaaGreatDoor
open Go.RowKit

def longB (x : Ev) : Bool := decide (3000 < x.party.size ∨ 3000 < x.name.size ∨ 3000 < x.value.size)
theorem alloc_below (w : World) (o : Obj) : Below w.heap.size w (w.alloc o) := (Below.refl _ _).alloc (Nat.le_refl _) _

set_option maxHeartbeats 400000 in
theorem long_any (k1 i1 e1 t1 d1 : Int) (p1 n1 v1 : ByteArray) (f1 : Bool) (w : World) :
    Calls Tryz.prog 9 #[.agg #[.int .u8 k1, .int .i64 i1, .int .i64 e1, .int .i64 t1, .int .i64 d1, .string p1, .string n1, .string v1, .bool f1]] w fun e w' =>
      e = .returned (.bool (longB ⟨k1, i1, e1, t1, d1, p1, n1, v1, f1⟩)) ∧ Below w.heap.size w w' := by
  by_cases h1 : 3000 < p1.size
  · have e : Hid (longB ⟨k1, i1, e1, t1, d1, p1, n1, v1, f1⟩ = true) := by show _ = _; simp [longB, h1]
    have g1 : decide ((3000 : Int) < (p1.size : Int)) = true := by simp; omega
    go_enter Tryz.func9, Tryz.ntmps9
    go_wp2
    go_ret
    exact ⟨ret_bool e.out.symm, alloc_below _ _⟩
  · have g1 : decide ((3000 : Int) < (p1.size : Int)) = false := by simp; omega
    by_cases h2 : 3000 < n1.size
    · have e : Hid (longB ⟨k1, i1, e1, t1, d1, p1, n1, v1, f1⟩ = true) := by show _ = _; simp [longB, h2]
      have g2 : decide ((3000 : Int) < (n1.size : Int)) = true := by simp; omega
      go_enter Tryz.func9, Tryz.ntmps9
      go_wp2
      go_ret
      exact ⟨ret_bool e.out.symm, alloc_below _ _⟩
    · have g2 : decide ((3000 : Int) < (n1.size : Int)) = false := by simp; omega
      by_cases h3 : 3000 < v1.size
      · have e : Hid (longB ⟨k1, i1, e1, t1, d1, p1, n1, v1, f1⟩ = true) := by show _ = _; simp [longB, h3]
        have g3 : decide ((3000 : Int) < (v1.size : Int)) = true := by simp; omega
        go_enter Tryz.func9, Tryz.ntmps9
        go_wp2
        go_ret
        exact ⟨ret_bool e.out.symm, alloc_below _ _⟩
      · have e : Hid (longB ⟨k1, i1, e1, t1, d1, p1, n1, v1, f1⟩ = false) := by show _ = _; simp [longB]; omega
        have g3 : decide ((3000 : Int) < (v1.size : Int)) = false := by simp; omega
        go_enter Tryz.func9, Tryz.ntmps9
        go_wp2
        go_ret
        exact ⟨ret_bool e.out.symm, alloc_below _ _⟩

/-- An event as it lies in memory: nine cells. -/
def EvAt (w : World) (g o : Nat) (x : Ev) : Prop := w.cell? ⟨g, o, none⟩ = some (.int .u8 x.kind) ∧ w.cell? ⟨g, o + 1, none⟩ = some (.int .i64 x.id) ∧ w.cell? ⟨g, o + 2, none⟩ = some (.int .i64 x.entry) ∧ w.cell? ⟨g, o + 3, none⟩ = some (.int .i64 x.target) ∧ w.cell? ⟨g, o + 4, none⟩ = some (.int .i64 x.date) ∧ w.cell? ⟨g, o + 5, none⟩ = some (.string x.party) ∧ w.cell? ⟨g, o + 6, none⟩ = some (.string x.name) ∧ w.cell? ⟨g, o + 7, none⟩ = some (.string x.value) ∧ w.cell? ⟨g, o + 8, none⟩ = some (.bool x.first)
def Evs (w : World) (g off : Nat) (l : List Ev) : Prop := ∀ i, i < l.length → EvAt w g (off + i * 9) (l[i]?.getD default)
def aggEv (x : Ev) : Value := .agg #[.int .u8 x.kind, .int .i64 x.id, .int .i64 x.entry, .int .i64 x.target, .int .i64 x.date, .string x.party, .string x.name, .string x.value, .bool x.first]

end Go.Proofs.YtcfgpojogomkhaaGreatDoor

namespace Go.Proofs.YtcfgpojogomkhaaGreatDoor
open Go.RowKit

theorem bl_irrefl (a : List UInt8) : Op.bytesLess a a = false := by
  induction a with
  | nil => rfl
  | cons x a ih => simp [Op.bytesLess, ih]
theorem bl_trans (a b c : List UInt8) (h1 : Op.bytesLess a b = true) (h2 : Op.bytesLess b c = true) : Op.bytesLess a c = true := by
  induction a generalizing b c with
  | nil =>
    cases c with
    | nil => cases b <;> simp [Op.bytesLess] at h2
    | cons z c => rfl
  | cons x a ih =>
    cases b with
    | nil => simp [Op.bytesLess] at h1
    | cons y b =>
      cases c with
      | nil => simp [Op.bytesLess] at h2
      | cons z c =>
        simp only [Op.bytesLess, Bool.or_eq_true, Bool.and_eq_true, decide_eq_true_eq, beq_iff_eq] at h1 h2 ⊢
        rcases h1 with h1 | ⟨h1, h1'⟩ <;> rcases h2 with h2 | ⟨h2, h2'⟩
        · exact .inl (UInt8.lt_trans h1 h2)
        · subst h2; exact .inl h1
        · subst h1; exact .inl h2
        · subst h1; subst h2; exact .inr ⟨rfl, ih b c h1' h2'⟩
theorem bl_total (a b : List UInt8) (h1 : Op.bytesLess a b = false) (h2 : Op.bytesLess b a = false) : a = b := by
  induction a generalizing b with
  | nil => cases b with
    | nil => rfl
    | cons y b => simp [Op.bytesLess] at h1
  | cons x a ih =>
    cases b with
    | nil => simp [Op.bytesLess] at h2
    | cons y b =>
      simp only [Op.bytesLess, Bool.or_eq_false_iff, Bool.and_eq_false_imp, decide_eq_false_iff_not, beq_iff_eq] at h1 h2
      have e : x = y := by
        have a1 := UInt8.not_lt.1 h1.1
        have a2 := UInt8.not_lt.1 h2.1
        exact UInt8.le_antisymm a2 a1
      subst e
      rw [ih b (h1.2 rfl) (h2.2 rfl)]
theorem bl_asymm (a b : List UInt8) (h : Op.bytesLess a b = true) : Op.bytesLess b a = false := by
  by_cases h2 : Op.bytesLess b a = true
  · have := bl_trans a b a h h2; rw [bl_irrefl] at this; cases this
  · simpa using h2

/-- A comparison that orders. -/
structure Tot {α : Type} (c : α → α → Int) : Prop where
  anti : ∀ x y, c y x = -(c x y)
  trans : ∀ x y z, c x y < 0 → c y z < 0 → c x z < 0
  cong : ∀ x y z, c x y = 0 → c x z = c y z

theorem tot_lex {α : Type} {c d : α → α → Int} (hc : Tot c) (hd : Tot d) : Tot (fun x y => if c x y = 0 then d x y else c x y) where
  anti x y := by
    have h := hc.anti x y
    have h2 := hd.anti x y
    show (if c y x = 0 then d y x else c y x) = -(if c x y = 0 then d x y else c x y)
    by_cases e : c x y = 0
    · rw [if_pos e, if_pos (by omega), h2]
    · rw [if_neg e, if_neg (by omega), h]
  trans x y z := by
    intro h1 h2
    have a1 := hc.anti x y
    have a2 := hc.anti y z
    show (if c x z = 0 then d x z else c x z) < 0
    change (if c x y = 0 then d x y else c x y) < 0 at h1
    change (if c y z = 0 then d y z else c y z) < 0 at h2
    by_cases e1 : c x y = 0
    · rw [if_pos e1] at h1
      have g1 := hc.cong x y z e1
      by_cases e2 : c y z = 0
      · rw [if_pos e2] at h2
        rw [if_pos (by omega)]
        exact hd.trans x y z h1 h2
      · rw [if_neg e2] at h2
        rw [if_neg (by omega)]; omega
    · rw [if_neg e1] at h1
      by_cases e2 : c y z = 0
      · have g2 := hc.cong z y x (by omega)
        have a3 := hc.anti x z
        rw [if_neg (by omega)]
        omega
      · rw [if_neg e2] at h2
        have := hc.trans x y z h1 h2
        rw [if_neg (by omega)]; omega
  cong x y z := by
    intro h
    show (if c x z = 0 then d x z else c x z) = (if c y z = 0 then d y z else c y z)
    change (if c x y = 0 then d x y else c x y) = 0 at h
    by_cases e : c x y = 0
    · rw [if_pos e] at h
      rw [hc.cong x y z e, hd.cong x y z h]
    · rw [if_neg e] at h; exact absurd h e
theorem tot_zero {α : Type} : Tot (fun _ _ : α => (0 : Int)) := ⟨fun _ _ => rfl, fun _ _ _ h => by omega, fun _ _ _ _ => rfl⟩
theorem tot_int {α : Type} (f : α → Int) : Tot (fun x y => cmpI (f x) (f y)) where
  anti x y := by unfold cmpI; split <;> split <;> first | omega | (split <;> omega)
  trans x y z := by unfold cmpI; intro h1 h2; split at h1 <;> split at h2 <;> first | (rw [if_pos (by omega)]; omega) | (split at h1 <;> omega) | (split at h2 <;> omega) | omega
  cong x y z := by
    intro h
    have : f x = f y := by unfold cmpI at h; split at h <;> first | omega | (split at h <;> omega)
    rw [this]
theorem cmpS_lt {a b : ByteArray} : cmpS a b < 0 ↔ Op.bytesLess a.toList b.toList = true := by
  unfold cmpS
  by_cases h : Op.bytesLess a.toList b.toList = true
  · simp [h]
  · rw [if_neg h]; split <;> simp [h]
theorem toList_inj {a b : ByteArray} (h : a.toList = b.toList) : a = b := by
  rw [ByteArray.toList_eq, ByteArray.toList_eq] at h
  exact Go.WideShapes.bytes_inj h
theorem cmpS_zero {a b : ByteArray} (h : cmpS a b = 0) : a = b := by
  unfold cmpS at h
  split at h
  · omega
  · split at h
    · rename_i h2; exact toList_inj (by simpa using h2)
    · omega
theorem tot_str {α : Type} (f : α → ByteArray) : Tot (fun x y => cmpS (f x) (f y)) where
  anti x y := by
    by_cases h : Op.bytesLess (f x).toList (f y).toList = true
    · have h2 := bl_asymm _ _ h
      have h3 : ((f y).toList == (f x).toList) = false := by
        rw [beq_eq_false_iff_ne]; intro e; rw [e, bl_irrefl] at h; cases h
      unfold cmpS
      rw [if_pos h, if_neg (by simp [h2]), if_neg (by simp [h3])]; rfl
    · by_cases h2 : Op.bytesLess (f y).toList (f x).toList = true
      · have h3 : ((f x).toList == (f y).toList) = false := by
          rw [beq_eq_false_iff_ne]; intro e; rw [e, bl_irrefl] at h2; cases h2
        unfold cmpS
        rw [if_pos h2, if_neg h, if_neg (by simp [h3])]
      · have e := bl_total _ _ (by simpa using h) (by simpa using h2)
        unfold cmpS
        rw [e]
        simp [bl_irrefl]
  trans x y z := by
    intro h1 h2
    rw [cmpS_lt] at h1 h2 ⊢
    exact bl_trans _ _ _ h1 h2
  cong x y z := by intro h; rw [cmpS_zero h]
theorem tot_num {α : Type} (f : α → Bool) : Tot (fun x y => numB (f x) - numB (f y)) where
  anti x y := by omega
  trans x y z := by intro h1 h2; omega
  cong x y z := by intro h; omega

theorem tot_ev : Tot cmpEv :=
  tot_lex (tot_int Ev.entry) (tot_lex (tot_int Ev.id) (tot_lex (tot_int Ev.kind) (tot_lex (tot_int Ev.target) (tot_lex (tot_int Ev.date) (tot_lex (tot_str Ev.party) (tot_lex (tot_str Ev.name) (tot_lex (tot_str Ev.value) (tot_lex (tot_num Ev.first) tot_zero))))))))
theorem cmpI_zero {x y : Int} (h : cmpI x y = 0) : x = y := by
  unfold cmpI at h; split at h <;> first | omega | (split at h <;> omega)
theorem lex_zero {a b : Int} (h : (if a = 0 then b else a) = 0) : a = 0 ∧ b = 0 := by
  by_cases e : a = 0
  · rw [if_pos e] at h; exact ⟨e, h⟩
  · rw [if_neg e] at h; exact absurd h e
theorem numB_inj {a b : Bool} (h : numB a - numB b = 0) : a = b := by cases a <;> cases b <;> simp_all [numB]
theorem cmpEv_zero {x y : Ev} (h : cmpEv x y = 0) : x = y := by
  have h0 : (if cmpI x.entry y.entry = 0 then (if cmpI x.id y.id = 0 then (if cmpI x.kind y.kind = 0 then (if cmpI x.target y.target = 0 then (if cmpI x.date y.date = 0 then (if cmpS x.party y.party = 0 then (if cmpS x.name y.name = 0 then (if cmpS x.value y.value = 0 then (if numB x.first - numB y.first = 0 then 0 else numB x.first - numB y.first) else cmpS x.value y.value) else cmpS x.name y.name) else cmpS x.party y.party) else cmpI x.date y.date) else cmpI x.target y.target) else cmpI x.kind y.kind) else cmpI x.id y.id) else cmpI x.entry y.entry) = (0 : Int) := h
  obtain ⟨e1, h1⟩ := lex_zero h0
  obtain ⟨e2, h2⟩ := lex_zero h1
  obtain ⟨e3, h3⟩ := lex_zero h2
  obtain ⟨e4, h4⟩ := lex_zero h3
  obtain ⟨e5, h5⟩ := lex_zero h4
  obtain ⟨e6, h6⟩ := lex_zero h5
  obtain ⟨e7, h7⟩ := lex_zero h6
  obtain ⟨e8, h8⟩ := lex_zero h7
  obtain ⟨e9, _⟩ := lex_zero h8
  cases x; cases y
  simp only [Ev.mk.injEq]
  exact ⟨cmpI_zero e3, cmpI_zero e2, cmpI_zero e1, cmpI_zero e4, cmpI_zero e5, cmpS_zero e6, cmpS_zero e7, cmpS_zero e8, numB_inj e9⟩


theorem cmpI_rng (x y : Int) : -1 ≤ cmpI x y ∧ cmpI x y ≤ 1 := by
  unfold cmpI; split
  · omega
  · split <;> omega
theorem cmpS_rng (x y : ByteArray) : -1 ≤ cmpS x y ∧ cmpS x y ≤ 1 := by
  unfold cmpS; split
  · omega
  · split <;> omega
theorem numB_rng (x y : Bool) : -1 ≤ numB x - numB y ∧ numB x - numB y ≤ 1 := by cases x <;> cases y <;> decide
theorem firstNZ_rng (l : List Int) (h : ∀ x ∈ l, -1 ≤ x ∧ x ≤ 1) : -1 ≤ firstNZ l ∧ firstNZ l ≤ 1 := by
  induction l with
  | nil => exact ⟨by decide, by decide⟩
  | cons a l ih =>
    unfold firstNZ
    split
    · exact ih fun x hx => h x (List.mem_cons_of_mem _ hx)
    · exact h a List.mem_cons_self
theorem cmpEv_rng (x y : Ev) : -1 ≤ cmpEv x y ∧ cmpEv x y ≤ 1 := by
  refine firstNZ_rng _ fun c hc => ?_
  unfold cmpL at hc
  simp only [List.mem_cons, List.not_mem_nil, or_false] at hc
  rcases hc with rfl | rfl | rfl | rfl | rfl | rfl | rfl | rfl | rfl
  all_goals first | exact cmpI_rng _ _ | exact cmpS_rng _ _ | exact numB_rng _ _
theorem cmpEv_self (x : Ev) : cmpEv x x = 0 := by have := tot_ev.anti x x; omega

end Go.Proofs.YtcfgpojogomkhaaGreatDoor
