/-
  cmp.Compare at the kinds of an event's fields, number, first. No condition.
-/
import Derived.Test.YtcfgpojogomkhaaRows
import Derived.Test.YtcfgpojogomkhaaKitb
import Derived.StillTailTactics
namespace Go.Proofs.Ytcfgpojogomkhaa
open Go.RowKit

def cmpI (x y : Int) : Int := if x < y then -1 else if y < x then 1 else 0
def cmpS (a b : ByteArray) : Int := if Op.bytesLess a.toList b.toList = true then -1 else if (a.toList == b.toList) = true then 0 else 1
def numB (b : Bool) : Int := if b then 1 else 0
theorem cmpI_lt {x y : Int} (h : x < y) : cmpI x y = -1 := by unfold cmpI; rw [if_pos h]
theorem cmpI_gt {x y : Int} (h : y < x) : cmpI x y = 1 := by unfold cmpI; rw [if_neg (by omega), if_pos h]
theorem cmpI_eq {x : Int} : cmpI x x = 0 := by unfold cmpI; rw [if_neg (by omega), if_neg (by omega)]

set_option maxHeartbeats 400000 in
theorem cmpInt (x y : Int) (w : World) : Calls Try.prog 24 #[.int .i64 x, .int .i64 y] w fun e w' => e = .returned (.int .i64 (cmpI x y)) ∧ w' = w := by
  rcases Int.lt_trichotomy x y with h | h | h
  · have e := Lib.hid (cmpI_lt h)
    go_enter Try.func24, Try.ntmps24
    go_wp2
    go_ret
    exact ⟨ret_int e.out.symm, rfl⟩
  · subst h
    have e := Lib.hid (cmpI_eq (x := x))
    go_enter Try.func24, Try.ntmps24
    go_wp2
    go_ret
    exact ⟨ret_int e.out.symm, rfl⟩
  · have e := Lib.hid (cmpI_gt h)
    go_enter Try.func24, Try.ntmps24
    go_wp2
    go_ret
    exact ⟨ret_int e.out.symm, rfl⟩
set_option maxHeartbeats 400000 in
theorem cmpU8 (x y : Int) (w : World) : Calls Try.prog 25 #[.int .u8 x, .int .u8 y] w fun e w' => e = .returned (.int .i64 (cmpI x y)) ∧ w' = w := by
  rcases Int.lt_trichotomy x y with h | h | h
  · have e := Lib.hid (cmpI_lt h)
    go_enter Try.func25, Try.ntmps25
    go_wp2
    go_ret
    exact ⟨ret_int e.out.symm, rfl⟩
  · subst h
    have e := Lib.hid (cmpI_eq (x := x))
    go_enter Try.func25, Try.ntmps25
    go_wp2
    go_ret
    exact ⟨ret_int e.out.symm, rfl⟩
  · have e := Lib.hid (cmpI_gt h)
    go_enter Try.func25, Try.ntmps25
    go_wp2
    go_ret
    exact ⟨ret_int e.out.symm, rfl⟩
set_option maxHeartbeats 400000 in
theorem cmpStr (a b : ByteArray) (w : World) : Calls Try.prog 26 #[.string a, .string b] w fun e w' => e = .returned (.int .i64 (cmpS a b)) ∧ w' = w := by
  by_cases h : Op.bytesLess a.toList b.toList = true
  · have e : Hid (cmpS a b = -1) := by show _ = _; unfold cmpS; rw [if_pos h]
    go_enter Try.func26, Try.ntmps26
    go_wp2
    go_ret
    exact ⟨ret_int e.out.symm, rfl⟩
  · have h : Op.bytesLess a.toList b.toList = false := by simpa using h
    by_cases h2 : (a.toList == b.toList) = true
    · have e : Hid (cmpS a b = 0) := by show _ = _; unfold cmpS; rw [if_neg (by simp [h]), if_pos h2]
      go_enter Try.func26, Try.ntmps26
      go_wp2
      go_ret
      exact ⟨ret_int e.out.symm, rfl⟩
    · have h2 : (a.toList == b.toList) = false := by simpa using h2
      have e : Hid (cmpS a b = 1) := by show _ = _; unfold cmpS; rw [if_neg (by simp [h]), if_neg (by simp [h2])]
      go_enter Try.func26, Try.ntmps26
      go_wp2
      go_ret
      exact ⟨ret_int e.out.symm, rfl⟩

set_option maxHeartbeats 400000 in
theorem cmpRat (a b : ByteArray) (w : World) : Calls Try.prog 27 #[.string a, .string b] w fun e w' => e = .returned (.int .i64 (cmpS a b)) ∧ w' = w := by
  by_cases h : Op.bytesLess a.toList b.toList = true
  · have e : Hid (cmpS a b = -1) := by show _ = _; unfold cmpS; rw [if_pos h]
    go_enter Try.func27, Try.ntmps27
    go_wp2
    go_ret
    exact ⟨ret_int e.out.symm, rfl⟩
  · have h : Op.bytesLess a.toList b.toList = false := by simpa using h
    by_cases h2 : (a.toList == b.toList) = true
    · have e : Hid (cmpS a b = 0) := by show _ = _; unfold cmpS; rw [if_neg (by simp [h]), if_pos h2]
      go_enter Try.func27, Try.ntmps27
      go_wp2
      go_ret
      exact ⟨ret_int e.out.symm, rfl⟩
    · have h2 : (a.toList == b.toList) = false := by simpa using h2
      have e : Hid (cmpS a b = 1) := by show _ = _; unfold cmpS; rw [if_neg (by simp [h]), if_neg (by simp [h2])]
      go_enter Try.func27, Try.ntmps27
      go_wp2
      go_ret
      exact ⟨ret_int e.out.symm, rfl⟩


set_option maxHeartbeats 400000 in
theorem number_any (b : Bool) (w : World) : Calls Try.prog 28 #[.bool b] w fun e w' => e = .returned (.int .i64 (numB b)) ∧ w' = w := by
  cases b
  · go_enter Try.func28, Try.ntmps28
    go_wp2
    go_ret
    exact ⟨rfl, rfl⟩
  · go_enter Try.func28, Try.ntmps28
    go_wp2
    go_ret
    exact ⟨rfl, rfl⟩

def firstNZ : List Int → Int
  | [] => 0
  | x :: l => if x = 0 then firstNZ l else x
theorem firstNZ_at (l : List Int) (k : Nat) (hk : k < l.length) (h0 : ∀ j, j < k → l[j]?.getD 0 = 0) (h : l[k]?.getD 0 ≠ 0) : firstNZ l = l[k]?.getD 0 := by
  induction l generalizing k with
  | nil => simp at hk
  | cons x l ih =>
    cases k with
    | zero => simp at h; simp [firstNZ, h]
    | succ k =>
      have hx : x = 0 := by simpa using h0 0 (by omega)
      rw [firstNZ, if_pos hx, ih k (by simpa using hk) (fun j hj => by simpa using h0 (j + 1) (by omega)) (by simpa using h)]
      simp
theorem firstNZ_none (l : List Int) (h0 : ∀ j, j < l.length → l[j]?.getD 0 = 0) : firstNZ l = 0 := by
  induction l with
  | nil => rfl
  | cons x l ih =>
    have hx : x = 0 := by simpa using h0 0 (by simp)
    rw [firstNZ, if_pos hx, ih (fun j hj => by simpa using h0 (j + 1) (by simpa using hj))]

set_option maxHeartbeats 400000 in
theorem first_any (g c n : Nat) (l : List Int) (w : World) (hl : l.length = n) (hn : n ≤ 1000000) (hc : ∀ i, i < n → w.cell? ⟨g, i, none⟩ = some (.int .i64 (l[i]?.getD 0))) :
    Calls Try.prog 23 #[.slice (some ⟨g, 0, none⟩) n c] w fun e w' => e = .returned (.int .i64 (firstNZ l)) ∧ w' = w := by
  have HL := Lib.hid hl
  have HC := Lib.hid hc
  clear hl hc
  go_enter Try.func23, Try.ntmps23
  go_wp2
  go_loop [4, 7] (fun _ i => ∃ k : Nat, k ≤ n ∧ i = .int .i64 k ∧ Hid (∀ j, j < k → l[j]?.getD 0 = 0)) (fun _ i => n - (intOf i).toNat)
  case atStart => exact ⟨0, Nat.zero_le _, rfl, fun j hj => absurd hj (Nat.not_lt_zero _)⟩
  case round =>
    obtain ⟨k, hk, rfl, h0⟩ := hrel
    by_cases hlt : k < n
    · have g1 := HC.out k hlt
      by_cases hz : l[k]?.getD 0 = 0
      · have hz1 : (l[k]?.getD 0 != 0) = false := by simpa using hz
        have h0' : Hid (∀ j, j < k + 1 → l[j]?.getD 0 = 0) := fun j hj => by
          by_cases e : j = k
          · subst e; exact hz
          · exact h0.out j (by omega)
        clear hz
        go_wp2
        go_round
        case rel => exact ⟨k + 1, by omega, by go_num, h0'⟩
        case measure => simp [intOf]; omega
      · have hz1 : (l[k]?.getD 0 != 0) = true := by simpa using hz
        have e := Lib.hid (firstNZ_at l k (by have := HL.out; omega) h0.out hz)
        clear hz
        go_wp2
        go_ret
        exact ⟨ret_int e.out.symm, rfl⟩
    · have e := Lib.hid (firstNZ_none l (fun j hj => h0.out j (by have := HL.out; omega)))
      go_wp2
      go_ret
      exact ⟨ret_int e.out.symm, rfl⟩

set_option maxHeartbeats 400000 in
theorem ints_any (x y : Int) (w : World) : Calls Try.prog 29 #[.int .i64 x, .int .i64 y] w fun e w' => e = .returned (.int .i64 (cmpI x y)) ∧ w' = w := by
  rcases Int.lt_trichotomy x y with h | h | h
  · have e := Lib.hid (cmpI_lt h)
    go_enter Try.func29, Try.ntmps29
    go_wp2
    go_ret
    exact ⟨ret_int e.out.symm, rfl⟩
  · subst h
    have e := Lib.hid (cmpI_eq (x := x))
    go_enter Try.func29, Try.ntmps29
    go_wp2
    go_ret
    exact ⟨ret_int e.out.symm, rfl⟩
  · have e := Lib.hid (cmpI_gt h)
    go_enter Try.func29, Try.ntmps29
    go_wp2
    go_ret
    exact ⟨ret_int e.out.symm, rfl⟩
set_option maxHeartbeats 400000 in
theorem words_any (a b : ByteArray) (w : World) : Calls Try.prog 30 #[.string a, .string b] w fun e w' => e = .returned (.int .i64 (cmpS a b)) ∧ w' = w := by
  by_cases h : Op.bytesLess a.toList b.toList = true
  · have e : Hid (cmpS a b = -1) := by show _ = _; unfold cmpS; rw [if_pos h]
    go_enter Try.func30, Try.ntmps30
    go_wp2
    go_ret
    exact ⟨ret_int e.out.symm, rfl⟩
  · have h : Op.bytesLess a.toList b.toList = false := by simpa using h
    by_cases h2 : (a.toList == b.toList) = true
    · have e : Hid (cmpS a b = 0) := by show _ = _; unfold cmpS; rw [if_neg (by simp [h]), if_pos h2]
      go_enter Try.func30, Try.ntmps30
      go_wp2
      go_ret
      exact ⟨ret_int e.out.symm, rfl⟩
    · have h2 : (a.toList == b.toList) = false := by simpa using h2
      have e : Hid (cmpS a b = 1) := by show _ = _; unfold cmpS; rw [if_neg (by simp [h]), if_neg (by simp [h2])]
      go_enter Try.func30, Try.ntmps30
      go_wp2
      go_ret
      exact ⟨ret_int e.out.symm, rfl⟩


/-! ### Compare -/
structure Ev where
  kind : Int
  id : Int
  entry : Int
  target : Int
  date : Int
  party : ByteArray
  name : ByteArray
  value : ByteArray
  first : Bool
instance : Inhabited Ev := ⟨⟨0, 0, 0, 0, 0, ByteArray.empty, ByteArray.empty, ByteArray.empty, false⟩⟩
def encEv (x : Ev) : List Value := [.int .u8 x.kind, .int .i64 x.id, .int .i64 x.entry, .int .i64 x.target, .int .i64 x.date, .string x.party, .string x.name, .string x.value, .bool x.first]
def cmpL (x y : Ev) : List Int := [cmpI x.entry y.entry, cmpI x.id y.id, cmpI x.kind y.kind, cmpI x.target y.target, cmpI x.date y.date, cmpS x.party y.party, cmpS x.name y.name, cmpS x.value y.value, numB x.first - numB y.first]
def cmpEv (x y : Ev) : Int := firstNZ (cmpL x y)

set_option maxHeartbeats 1000000 in
set_option maxRecDepth 100000 in
theorem compare_any (k1 i1 e1 t1 d1 k2 i2 e2 t2 d2 : Int) (p1 n1 v1 p2 n2 v2 : ByteArray) (f1 f2 : Bool) (w : World) :
    Calls Try.prog 11 #[.agg #[.int .u8 k1, .int .i64 i1, .int .i64 e1, .int .i64 t1, .int .i64 d1, .string p1, .string n1, .string v1, .bool f1],
      .agg #[.int .u8 k2, .int .i64 i2, .int .i64 e2, .int .i64 t2, .int .i64 d2, .string p2, .string n2, .string v2, .bool f2]] w fun e w' =>
      e = .returned (.int .i64 (cmpEv ⟨k1, i1, e1, t1, d1, p1, n1, v1, f1⟩ ⟨k2, i2, e2, t2, d2, p2, n2, v2, f2⟩)) ∧ ∃ o1 o2 o3 : Obj, w' = ((w.alloc o1).alloc o2).drew.alloc o3 := by
  obtain ⟨w2, hw2⟩ : ∃ w2, w2 = ((w.alloc (.cells #[.int .u8 k1, .int .i64 i1, .int .i64 e1, .int .i64 t1, .int .i64 d1, .string p1, .string n1, .string v1, .bool f1] 26)).alloc (.cells #[.int .u8 k2, .int .i64 i2, .int .i64 e2, .int .i64 t2, .int .i64 d2, .string p2, .string n2, .string v2, .bool f2] 26)).drew := ⟨_, rfl⟩
  have a0 : w2.cell? ⟨w.heap.size, 0, none⟩ = some (.int .u8 k1) := by rw [hw2]; simp [go_sem, World.cell?_alloc_past]
  have a1 : w2.cell? ⟨w.heap.size, 1, none⟩ = some (.int .i64 i1) := by rw [hw2]; simp [go_sem, World.cell?_alloc_past]
  have a2 : w2.cell? ⟨w.heap.size, 2, none⟩ = some (.int .i64 e1) := by rw [hw2]; simp [go_sem, World.cell?_alloc_past]
  have a3 : w2.cell? ⟨w.heap.size, 3, none⟩ = some (.int .i64 t1) := by rw [hw2]; simp [go_sem, World.cell?_alloc_past]
  have a4 : w2.cell? ⟨w.heap.size, 4, none⟩ = some (.int .i64 d1) := by rw [hw2]; simp [go_sem, World.cell?_alloc_past]
  have a5 : w2.cell? ⟨w.heap.size, 5, none⟩ = some (.string p1) := by rw [hw2]; simp [go_sem, World.cell?_alloc_past]
  have a6 : w2.cell? ⟨w.heap.size, 6, none⟩ = some (.string n1) := by rw [hw2]; simp [go_sem, World.cell?_alloc_past]
  have a7 : w2.cell? ⟨w.heap.size, 7, none⟩ = some (.string v1) := by rw [hw2]; simp [go_sem, World.cell?_alloc_past]
  have a8 : w2.cell? ⟨w.heap.size, 8, none⟩ = some (.bool f1) := by rw [hw2]; simp [go_sem, World.cell?_alloc_past]
  have b0 : w2.cell? ⟨w.heap.size + 1, 0, none⟩ = some (.int .u8 k2) := by rw [hw2]; simp [go_sem]
  have b1 : w2.cell? ⟨w.heap.size + 1, 1, none⟩ = some (.int .i64 i2) := by rw [hw2]; simp [go_sem]
  have b2 : w2.cell? ⟨w.heap.size + 1, 2, none⟩ = some (.int .i64 e2) := by rw [hw2]; simp [go_sem]
  have b3 : w2.cell? ⟨w.heap.size + 1, 3, none⟩ = some (.int .i64 t2) := by rw [hw2]; simp [go_sem]
  have b4 : w2.cell? ⟨w.heap.size + 1, 4, none⟩ = some (.int .i64 d2) := by rw [hw2]; simp [go_sem]
  have b5 : w2.cell? ⟨w.heap.size + 1, 5, none⟩ = some (.string p2) := by rw [hw2]; simp [go_sem]
  have b6 : w2.cell? ⟨w.heap.size + 1, 6, none⟩ = some (.string n2) := by rw [hw2]; simp [go_sem]
  have b7 : w2.cell? ⟨w.heap.size + 1, 7, none⟩ = some (.string v2) := by rw [hw2]; simp [go_sem]
  have b8 : w2.cell? ⟨w.heap.size + 1, 8, none⟩ = some (.bool f2) := by rw [hw2]; simp [go_sem]
  have HW2 := Lib.hid hw2
  have nb1 : 0 ≤ numB f1 := by unfold numB; split <;> omega
  have nb2 : numB f1 ≤ 1 := by unfold numB; split <;> omega
  have nb3 : 0 ≤ numB f2 := by unfold numB; split <;> omega
  have nb4 : numB f2 ≤ 1 := by unfold numB; split <;> omega
  clear hw2
  go_enter Try.func11, Try.ntmps11
  go_wp2_with fail
  refine wp_region_still_tail 47 (by kernel_rfl) (by kernel_rfl) ?_
  simp only [List.take_succ_cons, List.take_zero, List.drop_succ_cons, List.drop_zero]
  change wpStill Try.prog _ (((w.alloc (.cells #[.int .u8 k1, .int .i64 i1, .int .i64 e1, .int .i64 t1, .int .i64 d1, .string p1, .string n1, .string v1, .bool f1] 26)).alloc (.cells #[.int .u8 k2, .int .i64 i2, .int .i64 e2, .int .i64 t2, .int .i64 d2, .string p2, .string n2, .string v2, .bool f2] 26)).drew) _ _ _
  rw [← HW2.out]
  iterate 4 still_step
  still_call (cmpInt _ _ _)
  iterate 4 still_step
  still_call (cmpInt _ _ _)
  iterate 4 still_step
  still_call (cmpU8 _ _ _)
  iterate 4 still_step
  still_call (cmpInt _ _ _)
  iterate 4 still_step
  still_call (cmpInt _ _ _)
  iterate 4 still_step
  still_call (cmpStr _ _ _)
  iterate 4 still_step
  still_call (cmpStr _ _ _)
  iterate 4 still_step
  still_call (cmpRat _ _ _)
  iterate 2 still_step
  still_call (number_any _ _)
  iterate 2 still_step
  still_call (number_any _ _)
  still_step
  refine wpStill_nil ?_
  change wpList Try.prog _ _ _ _ (((w.alloc (.cells #[.int .u8 k1, .int .i64 i1, .int .i64 e1, .int .i64 t1, .int .i64 d1, .string p1, .string n1, .string v1, .bool f1] 26)).alloc (.cells #[.int .u8 k2, .int .i64 i2, .int .i64 e2, .int .i64 t2, .int .i64 d2, .string p2, .string n2, .string v2, .bool f2] 26)).drew)
  rw [← HW2.out]
  have hz : w2.heap.size = w.heap.size + 1 + 1 := by rw [HW2.out]; simp [World.drew]
  have hrow : ∀ c : Array Value, RowAt (w2.alloc (.cells c 3)) w2.heap.size 3 c.toList := fun c => rowAt_alloc rfl rfl
  clear a0 a1 a2 a3 a4 a5 a6 a7 a8 b0 b1 b2 b3 b4 b5 b6 b7 b8 hz
  go_wp2_with fail
  refine (first_any w2.heap.size 9 9 [cmpI e1 e2, cmpI i1 i2, cmpI k1 k2, cmpI t1 t2, cmpI d1 d2, cmpS p1 p2, cmpS n1 n2, cmpS v1 v2, numB f1 - numB f2] _ rfl (by omega) (fun i hi => ?_)).mono ?_
  · rw [(hrow _).cell (by simpa using hi)]
    exact ints_get [cmpI e1 e2, cmpI i1 i2, cmpI k1 k2, cmpI t1 t2, cmpI d1 d2, cmpS p1 p2, cmpS n1 n2, cmpS v1 v2, numB f1 - numB f2] i hi
  · rintro e w' ⟨rfl, rfl⟩
    go_wp2_with fail
    go_ret
    exact ⟨rfl, .cells #[.int .u8 k1, .int .i64 i1, .int .i64 e1, .int .i64 t1, .int .i64 d1, .string p1, .string n1, .string v1, .bool f1] 26, .cells #[.int .u8 k2, .int .i64 i2, .int .i64 e2, .int .i64 t2, .int .i64 d2, .string p2, .string n2, .string v2, .bool f2] 26, _, by rw [HW2.out]⟩

end Go.Proofs.Ytcfgpojogomkhaa
