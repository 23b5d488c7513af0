/-
  The reference's Compare, Long, Same over events. Condition: kinds fit a byte (Compare).
-/
import Derived.Test.YtcfgpojogomkhaaEva
import Derived.Deep.DeepCutAuto
import Derived.IntWalk
namespace Go.Proofs.Ytcfgpojogomkhaa
open Go.RowKit

theorem cmpEv_eq (k1 i1 e1 t1 d1 k2 i2 e2 t2 d2 : Int) (p1 n1 v1 p2 n2 v2 : ByteArray) (f1 f2 : Bool) : cmpEv ⟨k1, i1, e1, t1, d1, p1, n1, v1, f1⟩ ⟨k2, i2, e2, t2, d2, p2, n2, v2, f2⟩ =
    firstNZ [cmpI e1 e2, cmpI i1 i2, cmpI k1 k2, cmpI t1 t2, cmpI d1 d2, cmpS p1 p2, cmpS n1 n2, cmpS v1 v2, numB f1 - numB f2] := rfl

set_option maxHeartbeats 1000000 in
set_option maxRecDepth 100000 in
theorem refCompare_any (k1 i1 e1 t1 d1 k2 i2 e2 t2 d2 : Int) (p1 n1 v1 p2 n2 v2 : ByteArray) (f1 f2 : Bool) (w : World) (x1 : 0 ≤ k1) (x2 : k1 ≤ 255) (x3 : 0 ≤ k2) (x4 : k2 ≤ 255) :
    Calls Try.prog 12 #[.agg #[.int .u8 k1, .int .i64 i1, .int .i64 e1, .int .i64 t1, .int .i64 d1, .string p1, .string n1, .string v1, .bool f1],
      .agg #[.int .u8 k2, .int .i64 i2, .int .i64 e2, .int .i64 t2, .int .i64 d2, .string p2, .string n2, .string v2, .bool f2]] w fun e w' =>
      e = .returned (.int .i64 (cmpEv ⟨k1, i1, e1, t1, d1, p1, n1, v1, f1⟩ ⟨k2, i2, e2, t2, d2, p2, n2, v2, f2⟩)) ∧ ∃ o1 o2 o3 : Obj, w' = ((w.alloc o1).alloc o2).drew.alloc o3 := by
  obtain ⟨w1, hw1⟩ : ∃ w1, w1 = (w.alloc (.cells #[.int .u8 k1, .int .i64 i1, .int .i64 e1, .int .i64 t1, .int .i64 d1, .string p1, .string n1, .string v1, .bool f1] 26)).alloc (.cells #[.int .u8 k2, .int .i64 i2, .int .i64 e2, .int .i64 t2, .int .i64 d2, .string p2, .string n2, .string v2, .bool f2] 26) := ⟨_, rfl⟩
  have a0 : w1.cell? ⟨w.heap.size, 0, none⟩ = some (.int .u8 k1) := by rw [hw1]; simp [go_sem, World.cell?_alloc_past]
  have a1 : w1.cell? ⟨w.heap.size, 1, none⟩ = some (.int .i64 i1) := by rw [hw1]; simp [go_sem, World.cell?_alloc_past]
  have a2 : w1.cell? ⟨w.heap.size, 2, none⟩ = some (.int .i64 e1) := by rw [hw1]; simp [go_sem, World.cell?_alloc_past]
  have a3 : w1.cell? ⟨w.heap.size, 3, none⟩ = some (.int .i64 t1) := by rw [hw1]; simp [go_sem, World.cell?_alloc_past]
  have a4 : w1.cell? ⟨w.heap.size, 4, none⟩ = some (.int .i64 d1) := by rw [hw1]; simp [go_sem, World.cell?_alloc_past]
  have a5 : w1.cell? ⟨w.heap.size, 5, none⟩ = some (.string p1) := by rw [hw1]; simp [go_sem, World.cell?_alloc_past]
  have a6 : w1.cell? ⟨w.heap.size, 6, none⟩ = some (.string n1) := by rw [hw1]; simp [go_sem, World.cell?_alloc_past]
  have a7 : w1.cell? ⟨w.heap.size, 7, none⟩ = some (.string v1) := by rw [hw1]; simp [go_sem, World.cell?_alloc_past]
  have a8 : w1.cell? ⟨w.heap.size, 8, none⟩ = some (.bool f1) := by rw [hw1]; simp [go_sem, World.cell?_alloc_past]
  have b0 : w1.cell? ⟨w.heap.size + 1, 0, none⟩ = some (.int .u8 k2) := by rw [hw1]; simp [go_sem]
  have b1 : w1.cell? ⟨w.heap.size + 1, 1, none⟩ = some (.int .i64 i2) := by rw [hw1]; simp [go_sem]
  have b2 : w1.cell? ⟨w.heap.size + 1, 2, none⟩ = some (.int .i64 e2) := by rw [hw1]; simp [go_sem]
  have b3 : w1.cell? ⟨w.heap.size + 1, 3, none⟩ = some (.int .i64 t2) := by rw [hw1]; simp [go_sem]
  have b4 : w1.cell? ⟨w.heap.size + 1, 4, none⟩ = some (.int .i64 d2) := by rw [hw1]; simp [go_sem]
  have b5 : w1.cell? ⟨w.heap.size + 1, 5, none⟩ = some (.string p2) := by rw [hw1]; simp [go_sem]
  have b6 : w1.cell? ⟨w.heap.size + 1, 6, none⟩ = some (.string n2) := by rw [hw1]; simp [go_sem]
  have b7 : w1.cell? ⟨w.heap.size + 1, 7, none⟩ = some (.string v2) := by rw [hw1]; simp [go_sem]
  have b8 : w1.cell? ⟨w.heap.size + 1, 8, none⟩ = some (.bool f2) := by rw [hw1]; simp [go_sem]
  have HW1 := Lib.hid hw1
  have wk1 : Hid (IntKind.i64.wrap k1 = k1) := IntWalk.i64_in _ (by omega)
  have wk2 : Hid (IntKind.i64.wrap k2 = k2) := IntWalk.i64_in _ (by omega)
  have hEQ := Lib.hid (cmpEv_eq k1 i1 e1 t1 d1 k2 i2 e2 t2 d2 p1 n1 v1 p2 n2 v2 f1 f2)
  clear hw1
  go_enter Try.func12, Try.ntmps12
  go_upto_if 12 with (fail)
  rw [← HW1.out]
  go_cut [5] (fun s5 wx => s5 = .int .i64 (numB f1 - numB f2) ∧ w1 = wx)
  case first =>
    cases f1 <;> cases f2
    all_goals (go_wp2_with fail; go_meet; exact ⟨rfl, rfl⟩)
  case rest =>
    obtain ⟨rfl, rfl⟩ := hcut
    go_wp2_with fail
    refine wp_region_still_tail 43 (by kernel_rfl) (by kernel_rfl) ?_
    simp only [List.take_succ_cons, List.take_zero, List.drop_succ_cons, List.drop_zero]
    change wpStill Try.prog _ w1.drew _ _ _
    obtain ⟨w2, hw2⟩ : ∃ w2, w2 = w1.drew := ⟨_, rfl⟩
    have HW2 := Lib.hid hw2
    rw [← World.cell?_drew] at a0 a1 a2 a3 a4 a5 a6 a7 a8 b0 b1 b2 b3 b4 b5 b6 b7 b8
    rw [← hw2] at a0 a1 a2 a3 a4 a5 a6 a7 a8 b0 b1 b2 b3 b4 b5 b6 b7 b8 ⊢
    clear hw2
    iterate 4 still_step
    still_call (ints_any _ _ _)
    iterate 4 still_step
    still_call (ints_any _ _ _)
    iterate 6 still_step
    still_call (ints_any _ _ _)
    iterate 4 still_step
    still_call (ints_any _ _ _)
    iterate 4 still_step
    still_call (ints_any _ _ _)
    iterate 4 still_step
    still_call (words_any _ _ _)
    iterate 4 still_step
    still_call (words_any _ _ _)
    iterate 4 still_step
    still_call (words_any _ _ _)
    still_step
    refine wpStill_nil ?_
    change wpList Try.prog _ _ _ _ w1.drew
    rw [← HW2.out]
    have hrow : ∀ c : Array Value, RowAt (w2.alloc (.cells c 3)) w2.heap.size 3 c.toList := fun c => rowAt_alloc rfl rfl
    clear a0 a1 a2 a3 a4 a5 a6 a7 a8 b0 b1 b2 b3 b4 b5 b6 b7 b8
    rw [wk1.out, wk2.out]
    obtain ⟨l, hl⟩ : ∃ l, l = [cmpI e1 e2, cmpI i1 i2, cmpI k1 k2, cmpI t1 t2, cmpI d1 d2, cmpS p1 p2, cmpS n1 n2, cmpS v1 v2, numB f1 - numB f2] := ⟨_, rfl⟩
    have hlen : Hid (l.length = 9) := by rw [hl]; rfl
    have hfe : Hid (firstNZ l = cmpEv ⟨k1, i1, e1, t1, d1, p1, n1, v1, f1⟩ ⟨k2, i2, e2, t2, d2, p2, n2, v2, f2⟩) := by rw [hl]; exact hEQ.out.symm
    have hcells : Hid (∀ i, i < 9 → (w2.alloc (.cells #[.int .i64 (cmpI e1 e2), .int .i64 (cmpI i1 i2), .int .i64 (cmpI k1 k2), .int .i64 (cmpI t1 t2), .int .i64 (cmpI d1 d2), .int .i64 (cmpS p1 p2), .int .i64 (cmpS n1 n2), .int .i64 (cmpS v1 v2), .int .i64 (numB f1 - numB f2)] 3)).cell? ⟨w2.heap.size, i, none⟩ = some (.int .i64 (l[i]?.getD 0))) := by
      intro i hi
      rw [(hrow _).cell (by simpa using hi), hl]
      exact ints_get [cmpI e1 e2, cmpI i1 i2, cmpI k1 k2, cmpI t1 t2, cmpI d1 d2, cmpS p1 p2, cmpS n1 n2, cmpS v1 v2, numB f1 - numB f2] i hi
    clear hrow hl wk1 wk2 hEQ
    go_wp2_with fail
    obtain ⟨w3, hw3⟩ : ∃ w3, w3 = w2.alloc (.cells #[.int .i64 (cmpI e1 e2), .int .i64 (cmpI i1 i2), .int .i64 (cmpI k1 k2), .int .i64 (cmpI t1 t2), .int .i64 (cmpI d1 d2), .int .i64 (cmpS p1 p2), .int .i64 (cmpS n1 n2), .int .i64 (cmpS v1 v2), .int .i64 (numB f1 - numB f2)] 3) := ⟨_, rfl⟩
    have hfin : Hid (∃ o1 o2 o3 : Obj, w3 = ((w.alloc o1).alloc o2).drew.alloc o3) := by
      refine ⟨.cells #[.int .u8 k1, .int .i64 i1, .int .i64 e1, .int .i64 t1, .int .i64 d1, .string p1, .string n1, .string v1, .bool f1] 26, .cells #[.int .u8 k2, .int .i64 i2, .int .i64 e2, .int .i64 t2, .int .i64 d2, .string p2, .string n2, .string v2, .bool f2] 26, .cells #[.int .i64 (cmpI e1 e2), .int .i64 (cmpI i1 i2), .int .i64 (cmpI k1 k2), .int .i64 (cmpI t1 t2), .int .i64 (cmpI d1 d2), .int .i64 (cmpS p1 p2), .int .i64 (cmpS n1 n2), .int .i64 (cmpS v1 v2), .int .i64 (numB f1 - numB f2)] 3, ?_⟩
      rw [hw3, HW2.out, HW1.out]
    rw [← hw3] at hcells ⊢
    clear hw3 HW2 HW1
    obtain ⟨g, hg⟩ : ∃ g, g = w2.heap.size := ⟨_, rfl⟩
    rw [← hg] at hcells ⊢
    clear hg
    go_loop [7] (fun i => ∃ k : Nat, k ≤ 9 ∧ i = .int .i64 k ∧ Hid (∀ j, j < k → l[j]?.getD 0 = 0)) (fun i => 9 - (intOf i).toNat)
    case atStart => exact ⟨0, Nat.zero_le _, rfl, fun j hj => absurd hj (Nat.not_lt_zero _)⟩
    case round =>
      obtain ⟨k, hk, rfl, h0⟩ := hrel
      by_cases hlt : k < 9
      · have g1 := hcells.out k hlt
        by_cases hz : l[k]?.getD 0 = 0
        · have hz1 : (l[k]?.getD 0 != 0) = false := by simpa using hz
          have h0' : Hid (∀ j, j < k + 1 → l[j]?.getD 0 = 0) := fun j hj => by
            by_cases e : j = k
            · subst e; exact hz
            · exact h0.out j (by omega)
          clear hz
          go_wp2_with fail
          go_round
          case rel => exact ⟨k + 1, by omega, by go_num, h0'⟩
          case measure => simp [intOf]; omega
        · have hz1 : (l[k]?.getD 0 != 0) = true := by simpa using hz
          have e := Lib.hid (firstNZ_at l k (by have := hlen.out; omega) h0.out hz)
          clear hz
          go_wp2_with fail
          go_ret
          exact ⟨ret_int (e.out.symm.trans hfe.out), hfin.out⟩
      · have e := Lib.hid (firstNZ_none l (fun j hj => h0.out j (by have := hlen.out; omega)))
        go_wp2_with fail
        go_ret
        exact ⟨ret_int (e.out.symm.trans hfe.out), hfin.out⟩

end Go.Proofs.Ytcfgpojogomkhaa
