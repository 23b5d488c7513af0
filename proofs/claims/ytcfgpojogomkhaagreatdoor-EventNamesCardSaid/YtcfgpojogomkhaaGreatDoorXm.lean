/-
  Texts that are refused; further texts that are read. Condition: what the package-level variables hold.
-/
import Derived.Test.YtcfgpojogomkhaaGreatDoorWg
namespace Go.Proofs.YtcfgpojogomkhaaGreatDoor
open Go.RowKit

set_option maxHeartbeats 2000000 in
set_option maxRecDepth 100000 in
theorem refuses_walk (s : ByteArray) (w : World)
    (HP : Hid (Ct w 12 #[.string s] (.tuple #[.agg #[.int .u8 0, .int .i64 0, .int .i64 0, .int .i64 0, .int .i64 0, .string ⟨#[]⟩, .string ⟨#[]⟩, .string ⟨#[]⟩, .bool false], .int .i64 12]))) :
    Calls Tryz.prog 17 #[.string s] w (BelB w true) := by
  go_enter Tryz.func17, Tryz.ntmps17
  go_wp2_with fail
  refine (HP.out.use (Below.refl _ _)).mono ?_
  rintro e w2 ⟨rfl, b2⟩
  have B2 := Lib.hid b2
  clear b2
  go_wp2_with fail
  go_ret
  exact ⟨rfl, B2.out.alloc B2.out.size _⟩
theorem refuses_ct {w : World} (h : Env w) (s : ByteArray) (ws : List ByteArray) (hj : joinS ws = s) (h0 : ws ≠ []) (hsp : ∀ x ∈ ws, (32 : UInt8) ∉ x.data.toList) (hs : s.size ≤ 100000) (hn : ¬ReadsW ws) :
    Ct w 17 #[.string s] (.bool true) := fun W hW => by
  subst hj
  exact refuses_walk _ W (Lib.hid (parse_no_ct (h.below hW) _ hs (by rw [words_join ws h0 hsp]; exact hn)))

theorem cnt_of {s : ByteArray} {v : Int} (ha : Lib.atoiAll s.data.toList = .ok v) : cntB s = if v < 0 ∨ itS v ≠ s then -1 else v := by
  have hc : cntB s = match Lib.atoiAll s.data.toList with | .ok v => if v < 0 ∨ itS v ≠ s then -1 else v | _ => -1 := rfl
  rw [hc, ha]
theorem cnt_range {s : ByteArray} (ha : Lib.atoiAll s.data.toList = .range) : cntB s = -1 := by
  have hc : cntB s = match Lib.atoiAll s.data.toList with | .ok v => if v < 0 ∨ itS v ≠ s then -1 else v | _ => -1 := rfl
  rw [hc, ha]
theorem cnt_is {n : Nat} {s : ByteArray} (h : itS (n : Int) = s) (hn : n ≤ 9223372036854775807) : cntB s = (n : Int) := by rw [← h]; exact cntB_itS (by omega) (by omega)
theorem no_day : ∀ day, ¬DText (⟨#[50, 48, 50, 54, 45, 49, 49, 45, 51, 49]⟩ : ByteArray).data.toList day := fun day ⟨h1, y, m, d, h2, h3⟩ => by
  have q1 := h2.small h1
  have e0 : (⟨#[50, 48, 50, 54, 45, 49, 49, 45, 51, 49]⟩ : ByteArray).data.toList = dateB 2026 11 31 := by kernel_rfl
  have e := e0.symm.trans h3
  unfold dateB at e
  obtain ⟨e1, e5⟩ := List.append_inj e (by simp [figB_len])
  obtain ⟨e1, e4⟩ := List.append_inj e1 (by simp [figB_len])
  obtain ⟨e1, e3⟩ := List.append_inj e1 (by simp [figB_len])
  obtain ⟨e1, e2⟩ := List.append_inj e1 (by simp [figB_len])
  have f1 := congrArg numV e1
  have f2 := congrArg numV e3
  have f3 := congrArg numV e5
  simp only [numV_figB] at f1 f2 f3
  obtain ⟨a1, a2, a3, a4, a5, a6⟩ := h2
  obtain rfl : y = 2026 := by omega
  obtain rfl : m = 11 := by omega
  obtain rfl : d = 31 := by omega
  exact absurd a5 (by decide)

def rws0 : List ByteArray := [⟨#[]⟩]
theorem rno0 : ¬ReadsW rws0 := fun h => absurd h.1 (by decide)
theorem rf0 {w : World} (h : Env w) : Hid (Ct w 17 #[.string ⟨#[]⟩] (.bool true)) := Lib.hid (refuses_ct h _ rws0 (congrArg ByteArray.mk (by kernel_rfl)) (by unfold rws0; simp) (by unfold rws0; decide) (Nat.le_of_ble_eq_true (by kernel_rfl)) rno0)
def rws1 : List ByteArray := [⟨#[102, 105, 120]⟩]
theorem rno1 : ¬ReadsW rws1 := fun h => absurd h.2.1 (by decide)
theorem rf1 {w : World} (h : Env w) : Hid (Ct w 17 #[.string ⟨#[102, 105, 120]⟩] (.bool true)) := Lib.hid (refuses_ct h _ rws1 (congrArg ByteArray.mk (by kernel_rfl)) (by unfold rws1; simp) (by unfold rws1; decide) (Nat.le_of_ble_eq_true (by kernel_rfl)) rno1)
def rws2 : List ByteArray := [⟨#[102, 105, 120]⟩, ⟨#[49]⟩, ⟨#[53, 48]⟩, ⟨#[65, 67, 77, 69]⟩, ⟨#[50, 48, 50, 54, 45, 49, 49, 45, 49, 54]⟩, ⟨#[49, 48, 49, 47, 52]⟩, ⟨#[]⟩]
theorem rno2 : ¬ReadsW rws2 := fun h => absurd h.2.1 (by decide)
theorem rf2 {w : World} (h : Env w) : Hid (Ct w 17 #[.string ⟨#[102, 105, 120, 32, 49, 32, 53, 48, 32, 65, 67, 77, 69, 32, 50, 48, 50, 54, 45, 49, 49, 45, 49, 54, 32, 49, 48, 49, 47, 52, 32]⟩] (.bool true)) := Lib.hid (refuses_ct h _ rws2 (congrArg ByteArray.mk (by kernel_rfl)) (by unfold rws2; simp) (by unfold rws2; decide) (Nat.le_of_ble_eq_true (by kernel_rfl)) rno2)
def rws3 : List ByteArray := [⟨#[102, 105, 120]⟩, ⟨#[48, 49]⟩, ⟨#[53, 48]⟩, ⟨#[65, 67, 77, 69]⟩, ⟨#[50, 48, 50, 54, 45, 49, 49, 45, 49, 54]⟩, ⟨#[49, 48, 49, 47, 52]⟩]
theorem rno3 : ¬ReadsW rws3 := fun h => by
  have hv := h.2.2.2
  unfold rws3 at hv
  rw [evOf_1] at hv
  have V := (valE hv).id1
  dsimp only at V
  rw [cnt_of (v := 1) (by kernel_rfl), i1, if_pos (.inr (by decide))] at V
  exact absurd V (by decide)
theorem rf3 {w : World} (h : Env w) : Hid (Ct w 17 #[.string ⟨#[102, 105, 120, 32, 48, 49, 32, 53, 48, 32, 65, 67, 77, 69, 32, 50, 48, 50, 54, 45, 49, 49, 45, 49, 54, 32, 49, 48, 49, 47, 52]⟩] (.bool true)) := Lib.hid (refuses_ct h _ rws3 (congrArg ByteArray.mk (by kernel_rfl)) (by unfold rws3; simp) (by unfold rws3; decide) (Nat.le_of_ble_eq_true (by kernel_rfl)) rno3)
def rws4 : List ByteArray := [⟨#[102, 105, 120]⟩, ⟨#[49]⟩, ⟨#[53, 48]⟩, ⟨#[65, 67, 77, 69]⟩, ⟨#[50, 48, 50, 54, 45, 49, 49, 45, 49, 54]⟩, ⟨#[50, 48, 50, 47, 56]⟩]
theorem rno4 : ¬ReadsW rws4 := fun h => by
  have hv := h.2.2.2
  unfold rws4 at hv
  rw [evOf_1, valB_1 rfl] at hv
  simp only [Bool.and_eq_true] at hv
  have := hv.2.2.1.1.1.2
  exact absurd this (by rw [show vlB ⟨#[50, 48, 50, 47, 56]⟩ = false by kernel_rfl]; decide)
theorem rf4 {w : World} (h : Env w) : Hid (Ct w 17 #[.string ⟨#[102, 105, 120, 32, 49, 32, 53, 48, 32, 65, 67, 77, 69, 32, 50, 48, 50, 54, 45, 49, 49, 45, 49, 54, 32, 50, 48, 50, 47, 56]⟩] (.bool true)) := Lib.hid (refuses_ct h _ rws4 (congrArg ByteArray.mk (by kernel_rfl)) (by unfold rws4; simp) (by unfold rws4; decide) (Nat.le_of_ble_eq_true (by kernel_rfl)) rno4)
def rws5 : List ByteArray := [⟨#[102, 105, 120]⟩, ⟨#[49]⟩, ⟨#[53, 48]⟩, ⟨#[65, 67, 77, 69]⟩, ⟨#[50, 48, 50, 54, 45, 49, 49, 45, 51, 49]⟩, ⟨#[49]⟩]
theorem rno5 : ¬ReadsW rws5 := fun h => by
  have hv := h.2.2.2
  unfold rws5 at hv
  rw [evOf_1] at hv
  have V := (valE hv).da1
  dsimp only at V
  rw [dtB_none no_day] at V
  exact absurd V (by decide)
theorem rf5 {w : World} (h : Env w) : Hid (Ct w 17 #[.string ⟨#[102, 105, 120, 32, 49, 32, 53, 48, 32, 65, 67, 77, 69, 32, 50, 48, 50, 54, 45, 49, 49, 45, 51, 49, 32, 49]⟩] (.bool true)) := Lib.hid (refuses_ct h _ rws5 (congrArg ByteArray.mk (by kernel_rfl)) (by unfold rws5; simp) (by unfold rws5; decide) (Nat.le_of_ble_eq_true (by kernel_rfl)) rno5)
def rws6 : List ByteArray := [⟨#[99, 104, 111, 105, 99, 101]⟩, ⟨#[50]⟩, ⟨#[53, 48]⟩, ⟨#[98, 97, 110, 107]⟩, ⟨#[99, 97, 108, 108]⟩, ⟨#[50, 48, 50, 54, 45, 49, 49, 45, 49, 54]⟩, ⟨#[89, 101, 115]⟩]
theorem rno6 : ¬ReadsW rws6 := fun h => by
  have hg := h.2.2.1 3 ⟨#[89, 101, 115]⟩ 115 (by decide) rfl rfl rfl
  exact absurd hg (by decide)
theorem rf6 {w : World} (h : Env w) : Hid (Ct w 17 #[.string ⟨#[99, 104, 111, 105, 99, 101, 32, 50, 32, 53, 48, 32, 98, 97, 110, 107, 32, 99, 97, 108, 108, 32, 50, 48, 50, 54, 45, 49, 49, 45, 49, 54, 32, 89, 101, 115]⟩] (.bool true)) := Lib.hid (refuses_ct h _ rws6 (congrArg ByteArray.mk (by kernel_rfl)) (by unfold rws6; simp) (by unfold rws6; decide) (Nat.le_of_ble_eq_true (by kernel_rfl)) rno6)
def rws7 : List ByteArray := [⟨#[99, 97, 110, 99, 101, 108]⟩, ⟨#[52]⟩, ⟨#[54, 49]⟩, ⟨#[52]⟩]
theorem rno7 : ¬ReadsW rws7 := fun h => by
  have hv := h.2.2.2
  unfold rws7 at hv
  rw [evOf_5, cnt_is (n := 4) i4 (by decide), cnt_is (n := 61) i61 (by decide)] at hv
  exact absurd hv (by rw [show valB ⟨5, ((4 : Nat) : Int), ((61 : Nat) : Int), ((4 : Nat) : Int), 0, ⟨#[]⟩, ⟨#[]⟩, ⟨#[]⟩, false⟩ = false by kernel_rfl]; decide)
theorem rf7 {w : World} (h : Env w) : Hid (Ct w 17 #[.string ⟨#[99, 97, 110, 99, 101, 108, 32, 52, 32, 54, 49, 32, 52]⟩] (.bool true)) := Lib.hid (refuses_ct h _ rws7 (congrArg ByteArray.mk (by kernel_rfl)) (by unfold rws7; simp) (by unfold rws7; decide) (Nat.le_of_ble_eq_true (by kernel_rfl)) rno7)
def rws8 : List ByteArray := [⟨#[99, 97, 110, 99, 101, 108]⟩, ⟨#[52]⟩, ⟨#[54, 49]⟩, ⟨#[45, 50]⟩]
theorem rno8 : ¬ReadsW rws8 := fun h => by
  have hv := h.2.2.2
  unfold rws8 at hv
  rw [evOf_5] at hv
  have V := (valE hv).ta1
  dsimp only at V
  rw [cnt_of (v := -2) (by kernel_rfl), if_pos (.inl (by decide))] at V
  exact absurd V (by decide)
theorem rf8 {w : World} (h : Env w) : Hid (Ct w 17 #[.string ⟨#[99, 97, 110, 99, 101, 108, 32, 52, 32, 54, 49, 32, 45, 50]⟩] (.bool true)) := Lib.hid (refuses_ct h _ rws8 (congrArg ByteArray.mk (by kernel_rfl)) (by unfold rws8; simp) (by unfold rws8; decide) (Nat.le_of_ble_eq_true (by kernel_rfl)) rno8)
def rws9 : List ByteArray := [⟨#[99, 97, 110, 99, 101, 108]⟩, ⟨#[]⟩, ⟨#[52]⟩, ⟨#[54, 49]⟩, ⟨#[50]⟩]
theorem rno9 : ¬ReadsW rws9 := fun h => absurd h.2.1 (by decide)
theorem rf9 {w : World} (h : Env w) : Hid (Ct w 17 #[.string ⟨#[99, 97, 110, 99, 101, 108, 32, 32, 52, 32, 54, 49, 32, 50]⟩] (.bool true)) := Lib.hid (refuses_ct h _ rws9 (congrArg ByteArray.mk (by kernel_rfl)) (by unfold rws9; simp) (by unfold rws9; decide) (Nat.le_of_ble_eq_true (by kernel_rfl)) rno9)
def rws10 : List ByteArray := [⟨#[99, 97, 110, 99, 101, 108]⟩, ⟨#[57, 57, 57, 57, 57, 57, 57, 57, 57, 57, 57, 57, 57, 57, 57, 57, 57, 57, 57, 57]⟩, ⟨#[49]⟩, ⟨#[49]⟩]
theorem rno10 : ¬ReadsW rws10 := fun h => by
  have hv := h.2.2.2
  unfold rws10 at hv
  rw [evOf_5] at hv
  have V := (valE hv).id1
  dsimp only at V
  rw [cnt_range (by kernel_rfl)] at V
  exact absurd V (by decide)
theorem rf10 {w : World} (h : Env w) : Hid (Ct w 17 #[.string ⟨#[99, 97, 110, 99, 101, 108, 32, 57, 57, 57, 57, 57, 57, 57, 57, 57, 57, 57, 57, 57, 57, 57, 57, 57, 57, 57, 57, 32, 49, 32, 49]⟩] (.bool true)) := Lib.hid (refuses_ct h _ rws10 (congrArg ByteArray.mk (by kernel_rfl)) (by unfold rws10; simp) (by unfold rws10; decide) (Nat.le_of_ble_eq_true (by kernel_rfl)) rno10)
def rws11 : List ByteArray := [⟨#[115, 116, 111, 112]⟩, ⟨#[52]⟩, ⟨#[54, 49]⟩, ⟨#[50]⟩]
theorem rno11 : ¬ReadsW rws11 := fun h => absurd h.1 (by decide)
theorem rf11 {w : World} (h : Env w) : Hid (Ct w 17 #[.string ⟨#[115, 116, 111, 112, 32, 52, 32, 54, 49, 32, 50]⟩] (.bool true)) := Lib.hid (refuses_ct h _ rws11 (congrArg ByteArray.mk (by kernel_rfl)) (by unfold rws11; simp) (by unfold rws11; decide) (Nat.le_of_ble_eq_true (by kernel_rfl)) rno11)
def ex5 : Ev := ⟨4, 1073741824, 1125899906842624, 1073741823, 0, ⟨#[]⟩, ⟨#[]⟩, ⟨#[]⟩, false⟩
def ex6 : Ev := ⟨5, 2, 0, 1, 0, ⟨#[]⟩, ⟨#[]⟩, ⟨#[]⟩, false⟩
theorem val_ex5 : valB ex5 = true := by kernel_rfl
theorem val_ex6 : valB ex6 = true := by kernel_rfl
theorem i0 : itS 0 = ⟨#[48]⟩ := itS_is (n := 0) (by simp [Lib.decDigits])
theorem ibig1 : itS 1073741824 = ⟨#[49, 48, 55, 51, 55, 52, 49, 56, 50, 52]⟩ := itS_is (n := 1073741824) (by simp [Lib.decDigits])
theorem ibig2 : itS 1073741823 = ⟨#[49, 48, 55, 51, 55, 52, 49, 56, 50, 51]⟩ := itS_is (n := 1073741823) (by simp [Lib.decDigits])
theorem txt_ex5 : joinS (textW ex5) = ⟨#[115, 105, 100, 101, 32, 49, 48, 55, 51, 55, 52, 49, 56, 50, 52, 32, 49, 49, 50, 53, 56, 57, 57, 57, 48, 54, 56, 52, 50, 54, 50, 52, 32, 49, 48, 55, 51, 55, 52, 49, 56, 50, 51, 32, 110, 111]⟩ := by
  have : textW ex5 = [⟨#[115, 105, 100, 101]⟩, itS 1073741824, itS 1125899906842624, itS 1073741823, ⟨#[110, 111]⟩] := rfl
  rw [this, ibig1, ibig, ibig2]; exact congrArg ByteArray.mk (by kernel_rfl)
theorem txt_ex6 : joinS (textW ex6) = ⟨#[99, 97, 110, 99, 101, 108, 32, 50, 32, 48, 32, 49]⟩ := by
  have : textW ex6 = [⟨#[99, 97, 110, 99, 101, 108]⟩, itS 2, itS 0, itS 1] := rfl
  rw [this, i2, i0, i1]; exact congrArg ByteArray.mk (by kernel_rfl)
theorem rd_ex5 {w : World} (h : Env w) : Hid (Ct w 18 #[.string ⟨#[115, 105, 100, 101, 32, 49, 48, 55, 51, 55, 52, 49, 56, 50, 52, 32, 49, 49, 50, 53, 56, 57, 57, 57, 48, 54, 56, 52, 50, 54, 50, 52, 32, 49, 48, 55, 51, 55, 52, 49, 56, 50, 51, 32, 110, 111]⟩, evV ex5] (.bool true)) := Lib.hid (reads_ct h val_ex5 (Nat.le_of_ble_eq_true (by kernel_rfl)) txt_ex5 (Nat.le_of_ble_eq_true (by kernel_rfl)))
theorem rd_ex6 {w : World} (h : Env w) : Hid (Ct w 18 #[.string ⟨#[99, 97, 110, 99, 101, 108, 32, 50, 32, 48, 32, 49]⟩, evV ex6] (.bool true)) := Lib.hid (reads_ct h val_ex6 (Nat.le_of_ble_eq_true (by kernel_rfl)) txt_ex6 (Nat.le_of_ble_eq_true (by kernel_rfl)))

end Go.Proofs.YtcfgpojogomkhaaGreatDoor
