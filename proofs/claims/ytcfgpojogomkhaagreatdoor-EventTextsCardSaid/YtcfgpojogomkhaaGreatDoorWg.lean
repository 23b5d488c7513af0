/-
  The chapter's examples: their texts; novationlaw17.alive. Condition: what the package-level variables hold. From a row's conditions to what the package-level variables hold; the wrap that keeps the world's shape. No condition.
-/
import Derived.Test.YtcfgpojogomkhaaGreatDoorWf
import Derived.Test.YtcfgpojogomkhaaGreatDoorRows
import Derived.Test.YtcfgpojogomkhaaGreatDoorWb
import Derived.Handed
import Derived.LaidLaws
import Derived.Lib.LaidTab
import Derived.Shelf.Vars
import Derived.Stop.LaidErr
namespace Go.Proofs.YtcfgpojogomkhaaGreatDoor
open Go.RowKit

def ex1 : Ev := ⟨1, 1, 50, 0, 46340, ⟨#[]⟩, ⟨#[65, 67, 77, 69]⟩, ⟨#[49, 48, 49, 47, 52]⟩, false⟩
def ex2 : Ev := ⟨2, 2, 50, 0, 46340, ⟨#[98, 97, 110, 107]⟩, ⟨#[99, 97, 108, 108]⟩, ⟨#[]⟩, true⟩
def ex3 : Ev := ⟨3, 3, 60, 1, 0, ⟨#[]⟩, ⟨#[]⟩, ⟨#[50, 53]⟩, false⟩
def ex4 : Ev := ⟨5, 4, 61, 2, 0, ⟨#[]⟩, ⟨#[]⟩, ⟨#[]⟩, false⟩
theorem val_ex1 : valB ex1 = true := by kernel_rfl
theorem val_ex2 : valB ex2 = true := by kernel_rfl
theorem val_ex3 : valB ex3 = true := by kernel_rfl
theorem val_ex4 : valB ex4 = true := by kernel_rfl
theorem itS_is {n : Nat} {l : List UInt8} (h : Lib.decDigits n = l) : itS (n : Int) = ⟨l.toArray⟩ := by
  refine Go.WideShapes.bytes_inj ?_
  rw [itS_data (by omega)]
  simpa using h
theorem i1 : itS 1 = ⟨#[49]⟩ := itS_is (n := 1) (by simp [Lib.decDigits])
theorem i2 : itS 2 = ⟨#[50]⟩ := itS_is (n := 2) (by simp [Lib.decDigits])
theorem i3 : itS 3 = ⟨#[51]⟩ := itS_is (n := 3) (by simp [Lib.decDigits])
theorem i4 : itS 4 = ⟨#[52]⟩ := itS_is (n := 4) (by simp [Lib.decDigits])
theorem i50 : itS 50 = ⟨#[53, 48]⟩ := itS_is (n := 50) (by simp [Lib.decDigits])
theorem i60 : itS 60 = ⟨#[54, 48]⟩ := itS_is (n := 60) (by simp [Lib.decDigits])
theorem i61 : itS 61 = ⟨#[54, 49]⟩ := itS_is (n := 61) (by simp [Lib.decDigits])
theorem ibig : itS 1125899906842624 = ⟨#[49, 49, 50, 53, 56, 57, 57, 57, 48, 54, 56, 52, 50, 54, 50, 52]⟩ := itS_is (n := 1125899906842624) (by simp [Lib.decDigits])
theorem dateis : DateIs 46340 2026 11 16 := ⟨by decide, by decide, by decide, by decide, of_decide_eq_true (by kernel_rfl), of_decide_eq_true (by kernel_rfl)⟩
theorem day1 : dayS 46340 = ⟨#[50, 48, 50, 54, 45, 49, 49, 45, 49, 54]⟩ := by
  rw [dayS_is (n := 46340) (by decide) (by decide) (show DateIs (46340 : Int).toNat 2026 11 16 from dateis)]
  exact congrArg ByteArray.mk (by kernel_rfl)
theorem txt_ex1 : joinS (textW ex1) = ⟨#[102, 105, 120, 32, 49, 32, 53, 48, 32, 65, 67, 77, 69, 32, 50, 48, 50, 54, 45, 49, 49, 45, 49, 54, 32, 49, 48, 49, 47, 52]⟩ := by
  have : textW ex1 = [⟨#[102, 105, 120]⟩, itS 1, itS 50, ⟨#[65, 67, 77, 69]⟩, dayS 46340, ⟨#[49, 48, 49, 47, 52]⟩] := rfl
  rw [this, i1, i50, day1]; exact congrArg ByteArray.mk (by kernel_rfl)
theorem txt_ex2 : joinS (textW ex2) = ⟨#[99, 104, 111, 105, 99, 101, 32, 50, 32, 53, 48, 32, 98, 97, 110, 107, 32, 99, 97, 108, 108, 32, 50, 48, 50, 54, 45, 49, 49, 45, 49, 54, 32, 121, 101, 115]⟩ := by
  have : textW ex2 = [⟨#[99, 104, 111, 105, 99, 101]⟩, itS 2, itS 50, ⟨#[98, 97, 110, 107]⟩, ⟨#[99, 97, 108, 108]⟩, dayS 46340, ⟨#[121, 101, 115]⟩] := rfl
  rw [this, i2, i50, day1]; exact congrArg ByteArray.mk (by kernel_rfl)
theorem txt_ex3 : joinS (textW ex3) = ⟨#[118, 97, 108, 117, 101, 32, 51, 32, 54, 48, 32, 49, 32, 50, 53]⟩ := by
  have : textW ex3 = [⟨#[118, 97, 108, 117, 101]⟩, itS 3, itS 60, itS 1, ⟨#[50, 53]⟩] := rfl
  rw [this, i3, i60, i1]; exact congrArg ByteArray.mk (by kernel_rfl)
theorem txt_ex4 : joinS (textW ex4) = ⟨#[99, 97, 110, 99, 101, 108, 32, 52, 32, 54, 49, 32, 50]⟩ := by
  have : textW ex4 = [⟨#[99, 97, 110, 99, 101, 108]⟩, itS 4, itS 61, itS 2] := rfl
  rw [this, i4, i61, i2]; exact congrArg ByteArray.mk (by kernel_rfl)
theorem cmp_ex12 : cmpEv ex1 ex2 = -1 := by decide
theorem cmp_ex43 : cmpEv ex4 ex3 = 1 := by decide

set_option maxHeartbeats 2000000 in
set_option maxRecDepth 100000 in
theorem fixing_any (w : World) : Calls Tryz.prog 19 #[] w fun e w' => e = .returned (evV ex1) ∧ Below w.heap.size w w' := by
  go_enter Tryz.func19, Tryz.ntmps19
  go_wp2_with fail
  refine bodyPost_ret (results_cell_row rfl _ _ w.heap.size 24 _ (0, 0) _ rfl (objHere _ _) Tryz.underlying24 rfl rfl) rfl ?_
  exact ⟨rfl, own_below _ _⟩

set_option maxHeartbeats 4000000 in
set_option maxRecDepth 100000 in
theorem alive_walk (w : World)
    (HF : Hid (∀ W, Calls Tryz.prog 19 #[] W fun e w' => e = .returned (.agg #[.int .u8 1, .int .i64 1, .int .i64 50, .int .i64 0, .int .i64 46340, .string ⟨#[]⟩, .string ⟨#[65, 67, 77, 69]⟩, .string ⟨#[49, 48, 49, 47, 52]⟩, .bool false]) ∧ Below W.heap.size W w'))
    (H1 : Hid (Ct w 18 #[.string ⟨#[102, 105, 120, 32, 49, 32, 53, 48, 32, 65, 67, 77, 69, 32, 50, 48, 50, 54, 45, 49, 49, 45, 49, 54, 32, 49, 48, 49, 47, 52]⟩, .agg #[.int .u8 1, .int .i64 1, .int .i64 50, .int .i64 0, .int .i64 46340, .string ⟨#[]⟩, .string ⟨#[65, 67, 77, 69]⟩, .string ⟨#[49, 48, 49, 47, 52]⟩, .bool false]] (.bool true)))
    (H2 : Hid (Ct w 18 #[.string ⟨#[99, 104, 111, 105, 99, 101, 32, 50, 32, 53, 48, 32, 98, 97, 110, 107, 32, 99, 97, 108, 108, 32, 50, 48, 50, 54, 45, 49, 49, 45, 49, 54, 32, 121, 101, 115]⟩, .agg #[.int .u8 2, .int .i64 2, .int .i64 50, .int .i64 0, .int .i64 46340, .string ⟨#[98, 97, 110, 107]⟩, .string ⟨#[99, 97, 108, 108]⟩, .string ⟨#[]⟩, .bool true]] (.bool true)))
    (H3 : Hid (Ct w 18 #[.string ⟨#[118, 97, 108, 117, 101, 32, 51, 32, 54, 48, 32, 49, 32, 50, 53]⟩, .agg #[.int .u8 3, .int .i64 3, .int .i64 60, .int .i64 1, .int .i64 0, .string ⟨#[]⟩, .string ⟨#[]⟩, .string ⟨#[50, 53]⟩, .bool false]] (.bool true)))
    (H4 : Hid (Ct w 18 #[.string ⟨#[99, 97, 110, 99, 101, 108, 32, 52, 32, 54, 49, 32, 50]⟩, .agg #[.int .u8 5, .int .i64 4, .int .i64 61, .int .i64 2, .int .i64 0, .string ⟨#[]⟩, .string ⟨#[]⟩, .string ⟨#[]⟩, .bool false]] (.bool true)))
    (HC1 : Hid (Ct w 15 #[.agg #[.int .u8 1, .int .i64 1, .int .i64 50, .int .i64 0, .int .i64 46340, .string ⟨#[]⟩, .string ⟨#[65, 67, 77, 69]⟩, .string ⟨#[49, 48, 49, 47, 52]⟩, .bool false], .agg #[.int .u8 2, .int .i64 2, .int .i64 50, .int .i64 0, .int .i64 46340, .string ⟨#[98, 97, 110, 107]⟩, .string ⟨#[99, 97, 108, 108]⟩, .string ⟨#[]⟩, .bool true]] (.int .i64 (-1))))
    (HC2 : Hid (Ct w 15 #[.agg #[.int .u8 5, .int .i64 4, .int .i64 61, .int .i64 2, .int .i64 0, .string ⟨#[]⟩, .string ⟨#[]⟩, .string ⟨#[]⟩, .bool false], .agg #[.int .u8 3, .int .i64 3, .int .i64 60, .int .i64 1, .int .i64 0, .string ⟨#[]⟩, .string ⟨#[]⟩, .string ⟨#[50, 53]⟩, .bool false]] (.int .i64 1))) :
    Calls Tryz.prog 14 #[] w (BelB w true) := by
  go_enter Tryz.func14, Tryz.ntmps14
  go_upto_region 4 with (fail)
  have h3 : ∃ W, W = ((w.alloc (.cells #[.int .u8 2, .int .i64 2, .int .i64 50, .int .i64 0, .int .i64 46340, .string ⟨#[98, 97, 110, 107]⟩, .string ⟨#[99, 97, 108, 108]⟩, .string ⟨#[]⟩, .bool true] 24)).alloc (.cells #[.int .u8 3, .int .i64 3, .int .i64 60, .int .i64 1, .int .i64 0, .string ⟨#[]⟩, .string ⟨#[]⟩, .string ⟨#[50, 53]⟩, .bool false] 24)).alloc (.cells #[.int .u8 5, .int .i64 4, .int .i64 61, .int .i64 2, .int .i64 0, .string ⟨#[]⟩, .string ⟨#[]⟩, .string ⟨#[]⟩, .bool false] 24) := ⟨_, rfl⟩
  obtain ⟨W, hW⟩ := h3
  rw [← hW]
  have ob : W.heap[w.heap.size]? = some (.cells #[.int .u8 2, .int .i64 2, .int .i64 50, .int .i64 0, .int .i64 46340, .string ⟨#[98, 97, 110, 107]⟩, .string ⟨#[99, 97, 108, 108]⟩, .string ⟨#[]⟩, .bool true] 24) := by
    rw [hW, Below.heap_alloc _ _ _ (by simp; omega), Below.heap_alloc _ _ _ (by simp)]; exact objHere _ _
  have oc : W.heap[w.heap.size + 1]? = some (.cells #[.int .u8 3, .int .i64 3, .int .i64 60, .int .i64 1, .int .i64 0, .string ⟨#[]⟩, .string ⟨#[]⟩, .string ⟨#[50, 53]⟩, .bool false] 24) := by
    have := objHere (w.alloc (.cells #[.int .u8 2, .int .i64 2, .int .i64 50, .int .i64 0, .int .i64 46340, .string ⟨#[98, 97, 110, 107]⟩, .string ⟨#[99, 97, 108, 108]⟩, .string ⟨#[]⟩, .bool true] 24)) (.cells #[.int .u8 3, .int .i64 3, .int .i64 60, .int .i64 1, .int .i64 0, .string ⟨#[]⟩, .string ⟨#[]⟩, .string ⟨#[50, 53]⟩, .bool false] 24)
    rw [hW, Below.heap_alloc _ _ _ (by simp)]
    simpa using this
  have od : W.heap[w.heap.size + 2]? = some (.cells #[.int .u8 5, .int .i64 4, .int .i64 61, .int .i64 2, .int .i64 0, .string ⟨#[]⟩, .string ⟨#[]⟩, .string ⟨#[]⟩, .bool false] 24) := by
    have := objHere ((w.alloc (.cells #[.int .u8 2, .int .i64 2, .int .i64 50, .int .i64 0, .int .i64 46340, .string ⟨#[98, 97, 110, 107]⟩, .string ⟨#[99, 97, 108, 108]⟩, .string ⟨#[]⟩, .bool true] 24)).alloc (.cells #[.int .u8 3, .int .i64 3, .int .i64 60, .int .i64 1, .int .i64 0, .string ⟨#[]⟩, .string ⟨#[]⟩, .string ⟨#[50, 53]⟩, .bool false] 24)) (.cells #[.int .u8 5, .int .i64 4, .int .i64 61, .int .i64 2, .int .i64 0, .string ⟨#[]⟩, .string ⟨#[]⟩, .string ⟨#[]⟩, .bool false] 24)
    rw [hW]
    simpa using this
  have BW : Hid (Below w.heap.size w W) := by rw [hW]; exact (((Below.refl _ _).alloc (Nat.le_refl _) _).alloc (by simp) _).alloc (by simp; omega) _
  obtain ⟨b0, b1, b2, b3, b4, b5, b6, b7, b8⟩ := zcells ob
  have b0' := fun p : BelOf W => cell_bel b0 p
  have b1' := fun p : BelOf W => cell_bel b1 p
  have b2' := fun p : BelOf W => cell_bel b2 p
  have b3' := fun p : BelOf W => cell_bel b3 p
  have b4' := fun p : BelOf W => cell_bel b4 p
  have b5' := fun p : BelOf W => cell_bel b5 p
  have b6' := fun p : BelOf W => cell_bel b6 p
  have b7' := fun p : BelOf W => cell_bel b7 p
  have b8' := fun p : BelOf W => cell_bel b8 p
  obtain ⟨c0, c1, c2, c3, c4, c5, c6, c7, c8⟩ := zcells oc
  have c0' := fun p : BelOf W => cell_bel c0 p
  have c1' := fun p : BelOf W => cell_bel c1 p
  have c2' := fun p : BelOf W => cell_bel c2 p
  have c3' := fun p : BelOf W => cell_bel c3 p
  have c4' := fun p : BelOf W => cell_bel c4 p
  have c5' := fun p : BelOf W => cell_bel c5 p
  have c6' := fun p : BelOf W => cell_bel c6 p
  have c7' := fun p : BelOf W => cell_bel c7 p
  have c8' := fun p : BelOf W => cell_bel c8 p
  obtain ⟨d0, d1, d2, d3, d4, d5, d6, d7, d8⟩ := zcells od
  have d0' := fun p : BelOf W => cell_bel d0 p
  have d1' := fun p : BelOf W => cell_bel d1 p
  have d2' := fun p : BelOf W => cell_bel d2 p
  have d3' := fun p : BelOf W => cell_bel d3 p
  have d4' := fun p : BelOf W => cell_bel d4 p
  have d5' := fun p : BelOf W => cell_bel d5 p
  have d6' := fun p : BelOf W => cell_bel d6 p
  have d7' := fun p : BelOf W => cell_bel d7 p
  have d8' := fun p : BelOf W => cell_bel d8 p
  clear b0 b1 b2 b3 b4 b5 b6 b7 b8 c0 c1 c2 c3 c4 c5 c6 c7 c8 d0 d1 d2 d3 d4 d5 d6 d7 d8 ob oc od hW
  refine region_bel (by kernel_rfl) (by kernel_rfl) ?_
  repeat (quiet_step (first
    | (go_at_call 19; exact bel_of (HF.out _))
    | (go_at_call 18; first | with_reducible exact bel_of (H1.out.use (BW.out.trans (BelOf.h _ |>.mono BW.out.size))) | with_reducible exact bel_of (H2.out.use (BW.out.trans (BelOf.h _ |>.mono BW.out.size))) | with_reducible exact bel_of (H3.out.use (BW.out.trans (BelOf.h _ |>.mono BW.out.size))) | with_reducible exact bel_of (H4.out.use (BW.out.trans (BelOf.h _ |>.mono BW.out.size))))
    | (go_at_call 15; first | with_reducible exact bel_of (HC1.out.use (BW.out.trans (BelOf.h _ |>.mono BW.out.size))) | with_reducible exact bel_of (HC2.out.use (BW.out.trans (BelOf.h _ |>.mono BW.out.size))))))
  refine wpQuiet_nil ?_
  intro w4 hw4
  obtain ⟨⟨w5, hw5⟩, hw6⟩ := hw4
  subst hw6
  go_wp2_with fail
  go_ret
  exact ⟨rfl, BW.out.trans (hw5.mono BW.out.size)⟩

theorem sz_v1 : ex1.value.size ≤ 100000 := Nat.le_of_ble_eq_true (by kernel_rfl)
theorem sz_t1 : (⟨#[102, 105, 120, 32, 49, 32, 53, 48, 32, 65, 67, 77, 69, 32, 50, 48, 50, 54, 45, 49, 49, 45, 49, 54, 32, 49, 48, 49, 47, 52]⟩ : ByteArray).size ≤ 100000 := Nat.le_of_ble_eq_true (by kernel_rfl)
theorem rd_ex1 {w : World} (h : Env w) : Hid (Ct w 18 #[.string ⟨#[102, 105, 120, 32, 49, 32, 53, 48, 32, 65, 67, 77, 69, 32, 50, 48, 50, 54, 45, 49, 49, 45, 49, 54, 32, 49, 48, 49, 47, 52]⟩, evV ex1] (.bool true)) := Lib.hid (reads_ct h val_ex1 sz_v1 txt_ex1 sz_t1)
theorem sz_v2 : ex2.value.size ≤ 100000 := Nat.le_of_ble_eq_true (by kernel_rfl)
theorem sz_t2 : (⟨#[99, 104, 111, 105, 99, 101, 32, 50, 32, 53, 48, 32, 98, 97, 110, 107, 32, 99, 97, 108, 108, 32, 50, 48, 50, 54, 45, 49, 49, 45, 49, 54, 32, 121, 101, 115]⟩ : ByteArray).size ≤ 100000 := Nat.le_of_ble_eq_true (by kernel_rfl)
theorem rd_ex2 {w : World} (h : Env w) : Hid (Ct w 18 #[.string ⟨#[99, 104, 111, 105, 99, 101, 32, 50, 32, 53, 48, 32, 98, 97, 110, 107, 32, 99, 97, 108, 108, 32, 50, 48, 50, 54, 45, 49, 49, 45, 49, 54, 32, 121, 101, 115]⟩, evV ex2] (.bool true)) := Lib.hid (reads_ct h val_ex2 sz_v2 txt_ex2 sz_t2)
theorem sz_v3 : ex3.value.size ≤ 100000 := Nat.le_of_ble_eq_true (by kernel_rfl)
theorem sz_t3 : (⟨#[118, 97, 108, 117, 101, 32, 51, 32, 54, 48, 32, 49, 32, 50, 53]⟩ : ByteArray).size ≤ 100000 := Nat.le_of_ble_eq_true (by kernel_rfl)
theorem rd_ex3 {w : World} (h : Env w) : Hid (Ct w 18 #[.string ⟨#[118, 97, 108, 117, 101, 32, 51, 32, 54, 48, 32, 49, 32, 50, 53]⟩, evV ex3] (.bool true)) := Lib.hid (reads_ct h val_ex3 sz_v3 txt_ex3 sz_t3)
theorem sz_v4 : ex4.value.size ≤ 100000 := Nat.le_of_ble_eq_true (by kernel_rfl)
theorem sz_t4 : (⟨#[99, 97, 110, 99, 101, 108, 32, 52, 32, 54, 49, 32, 50]⟩ : ByteArray).size ≤ 100000 := Nat.le_of_ble_eq_true (by kernel_rfl)
theorem rd_ex4 {w : World} (h : Env w) : Hid (Ct w 18 #[.string ⟨#[99, 97, 110, 99, 101, 108, 32, 52, 32, 54, 49, 32, 50]⟩, evV ex4] (.bool true)) := Lib.hid (reads_ct h val_ex4 sz_v4 txt_ex4 sz_t4)
theorem cm_ex1 (w : World) : Hid (Ct w 15 #[evV ex1, evV ex2] (.int .i64 (-1))) := Lib.hid (cmp_ex12 ▸ cmp_ct ex1 ex2 w)
theorem cm_ex2 (w : World) : Hid (Ct w 15 #[evV ex4, evV ex3] (.int .i64 1)) := Lib.hid (cmp_ex43 ▸ cmp_ct ex4 ex3 w)
theorem alive_ct {w : World} (h : Env w) : Ct w 14 #[] (.bool true) := fun W hW =>
  have hE := h.below hW
  alive_walk W (Lib.hid fixing_any) (rd_ex1 hE) (rd_ex2 hE) (rd_ex3 hE) (rd_ex4 hE) (cm_ex1 W) (cm_ex2 W)

end Go.Proofs.YtcfgpojogomkhaaGreatDoor

namespace Go
variable {H : Type} {enc : TypeId × Value → H}
/-- 'returnsInHanded_of_change_and', the world's shape kept. -/
theorem handed_shaped_and {a : Assume} {C : Checked} {os : Os} {f : FuncId} {fn : Func} {s : ChangeSpec} {conds : List PathCond} {apart fresh handsOn again : Bool} {X : World → Array Value → Prop}
    (hX : ∀ (w w' : World) (args : Array Value), w.heap = w'.heap → X w args → X w' args)
    (own : ownKnob C.prog.godebug = none) (started : os.Started) (noInit : C.prog.inits.idxOf? f = none) (hfn : C.prog.funcs[f]? = some fn)
    (witness : ∃ (w : World) (tape : Tape) (i : Input), w.os = os ∧ (w.forCall tape i).Shaped C.prog ∧ i.vars = [] ∧ Input.okWide C.prog (w.forCall tape i) .any w.heap.size f i ∧
      ((s.pre enc C.prog fn conds apart (w.forCall tape i).memory i.args ∧ X (w.forCall tape i).memory i.args) ∧ sizedMet enc C.prog fn (OpenSpec.ofChange s) apart (w.forCall tape i).memory i.args) ∧ a.holds C.prog (lone (Frame.enter C.prog f i.args .normal) [] (w.forCall tape i)))
    (contract : ∀ (W : World) (base : Nat) (args : Array Value) (ds gs : List (DataW H)) (before : List MemPlace),
      (∀ (j : Nat) t v, fn.params[j]? = some t → args[j]? = some v → Value.okWide C.prog W .any base t v) →
      DataW.Whole enc C.prog fn.params.toList s.vars apart W args.toList ds gs before →
      conds.all (PathCond.test C.prog ⟨fn.params.toList, ds, s.plain.varTypes C.prog, gs⟩) = true →
      (DataW.weightsEach C.prog (fn.params.toList ++ s.plain.varTypes C.prog) (ds ++ gs)).all (· ≤ reachBytes) = true → X W args →
      W.ShapedOpen C.prog →
      a.holds C.prog (lone (Frame.enter C.prog f args .normal) [] W) →
      Calls C.prog f args W fun e W' => ∃ v, e = .returned v ∧ s.post enc C.prog fn apart fresh handsOn again W args v W') :
    ReturnsInHanded a C os f .any (fun w args => (s.pre enc C.prog fn conds apart w args ∧ X w args) ∧ sizedMet enc C.prog fn (OpenSpec.ofChange s) apart w args) (s.post enc C.prog fn apart fresh handsOn again) := by
  refine returnsInHanded_of_calls own started noInit witness ?_
  intro w tape i _ hsh _ hok hpre hholds
  obtain ⟨_, _, _, fn', hfn', _, _, _, _, hval⟩ := hok
  have e : fn' = fn := Option.some.inj (hfn'.symm.trans hfn)
  subst e
  obtain ⟨⟨⟨ds, gs, before, hw, hc⟩, hx⟩, hz⟩ := hpre
  have hw' := DataW.Whole.of_heap (w' := w.forCall tape i) (by rfl) hw
  refine (contract (w.forCall tape i) w.heap.size i.args ds gs before hval hw' hc (hz.weights hw) (hX _ _ _ (by rfl) hx) hsh hholds).mono fun e W' ⟨v, he, hp⟩ => ?_
  subst he
  exact ChangeSpec.post_blind hp
end Go
namespace Go.Proofs.YtcfgpojogomkhaaGreatDoor
open Go.RowKit

/-- A variable of an interface type that stands first on the list, laid as some value. -/
theorem sent_of_head {P : Program} {W : World} {name nm : String} {d : DataW Unit} {rest : List (String × DataW Unit)} {g : Nat} {t : TypeId} {ms : Array (String × TypeId)}
    (hg : P.globalNamed name = some g) (hty : (P.globals[g]?).map (·.type) = some t) (hi : P.underlying t = some (.interface ms))
    (h : laidMet P ((name, .iface nm d) :: rest) W) : ∃ ev, W.cell? ⟨g, 0, none⟩ = some ev ∧ (ev = .nilIface ∨ ∃ te pe, ev = .iface te pe) := by
  obtain ⟨ps, ⟨g', t', cs, fuel, p, q, hg', ht', hvar, hd, _, _⟩, _⟩ := h
  obtain rfl := Option.some.inj (hg.symm.trans hg')
  obtain rfl := Option.some.inj (hty.symm.trans ht')
  obtain ⟨_, u, v, hcs, _, _⟩ := iface_of_trod hi hd
  refine ⟨.iface u v, ?_, .inr ⟨u, v, rfl⟩⟩
  have h0 := World.var?_cell hg hvar 0
  have e0 : cs[0]? = some (.iface u v) := by rw [← Array.getElem?_toList, hcs]; rfl
  rw [h0]
  exact e0

set_option maxRecDepth 100000 in
theorem env_of {W : World} (hsh : W.ShapedOpen Tryz.prog) (hL : laidMet Tryz.prog Rows.eventTotalRow.laid W) : Env W := by
  have h1 := hL.tail
  have h2 := h1.tail
  have h3 := h2.tail
  have h4 := h3.tail
  have h5 := h4.tail
  refine ⟨?_, ?_, ?_, ?_⟩
  · exact cell_of_shapedOpen_int (g := 1) (t := 3) (zero := #[.int .i64 0]) hsh (of_decide_eq_true (by kernel_rfl)) (by kernel_rfl) rfl (by kernel_rfl) (by kernel_rfl) Tryz.underlying3
  · exact Lib.tabIs_of_head (g := 0) (t := 185) (by kernel_rfl) (by kernel_rfl) (n := 20) (e := 147) (by kernel_rfl) (by kernel_rfl) (by kernel_rfl) (by kernel_rfl) h2
  · exact sent_of_head (g := 2) (t := 88) (by kernel_rfl) (by kernel_rfl) Tryz.underlying88 h5
  · exact sent_of_head (g := 3) (t := 88) (by kernel_rfl) (by kernel_rfl) Tryz.underlying88 h4

end Go.Proofs.YtcfgpojogomkhaaGreatDoor
