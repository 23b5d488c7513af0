/-
  The reference's Check of rationals: Slash, written. No condition. The reference's Check of rationals. No condition. The reference's Check of rationals, joined. No condition.
-/
import Derived.Test.YtdgmpgejemgbbaaGreatDoorVf
namespace Go.Proofs.YtdgmpgejemgbbaaGreatDoor
open Go.RowKit

/-- The place of the first stroke; the length, if there is none. -/
def slN (l : List UInt8) : Nat := (l.takeWhile (fun c => c != 47)).length
theorem slN_le (l : List UInt8) : slN l ≤ l.length := (List.takeWhile_sublist _).length_le
theorem slN_at {l : List UInt8} {k : Nat} (hk : k < l.length) (h0 : ∀ j, j < k → l[j]? ≠ some 47) (h : l[k]? = some 47) : slN l = k := by
  induction l generalizing k with
  | nil => simp at hk
  | cons c l ih =>
    cases k with
    | zero => simp at h; subst h; rfl
    | succ k =>
      have hc : c ≠ 47 := by have := h0 0 (by omega); simpa using this
      have := ih (k := k) (by simpa using hk) (fun j hj => by have := h0 (j + 1) (by omega); simpa using this) (by simpa using h)
      unfold slN at this ⊢
      rw [List.takeWhile_cons, if_pos (by simpa using hc)]
      simp [this]
theorem slN_none {l : List UInt8} (h0 : ∀ j, j < l.length → l[j]? ≠ some 47) : slN l = l.length := by
  induction l with
  | nil => rfl
  | cons c l ih =>
    have hc : c ≠ 47 := by have := h0 0 (by simp); simpa using this
    have := ih (fun j hj => by have := h0 (j + 1) (by simpa using hj); simpa using this)
    unfold slN at this ⊢
    rw [List.takeWhile_cons, if_pos (by simpa using hc)]
    simp [this]
theorem slN_spec {l : List UInt8} (h : slN l < l.length) : l[slN l]? = some 47 ∧ ∀ j, j < slN l → l[j]? ≠ some 47 := by
  induction l with
  | nil => simp at h
  | cons c l ih =>
    by_cases hc : c = 47
    · subst hc
      have e : slN (47 :: l) = 0 := rfl
      rw [e]; exact ⟨rfl, fun j hj => by omega⟩
    · have e : slN (c :: l) = slN l + 1 := by unfold slN; rw [List.takeWhile_cons, if_pos (by simpa using hc)]; rfl
      rw [e] at h ⊢
      obtain ⟨h1, h2⟩ := ih (by simpa using h)
      refine ⟨by simpa using h1, fun j hj => ?_⟩
      cases j with
      | zero => simpa using hc
      | succ j => have := h2 j (by omega); simpa using this
/-- The greatest common divisor of two texts. -/
def gcdB (n d : List UInt8) : Nat := match rdZ n, rdZ d with
  | some x, some y => Nat.gcd x.natAbs y.natAbs
  | _, _ => 0
/-- The error of a fraction's parts. -/
def chkF (n d : List UInt8) : Int :=
  if chkZ n = 12 ∨ chkZ d = 12 ∨ d.head? = some 45 ∨ d = [48] ∨ d = [49] then 12
  else if chkZ n = 14 ∨ chkZ d = 14 then 14 else if gcdB n d = 1 then 0 else 12
/-- The error of a rational. -/
def chkR (l : List UInt8) : Int := if slN l < l.length then chkF (l.take (slN l)) (l.drop (slN l + 1)) else chkZ l
theorem chkR_int {l : List UInt8} (h : slN l = l.length) : chkR l = chkZ l := by unfold chkR; rw [if_neg (by omega)]
theorem chkR_frac {l : List UInt8} {k : Nat} (h : slN l = k) (hk : k < l.length) : chkR l = chkF (l.take k) (l.drop (k + 1)) := by subst h; unfold chkR; rw [if_pos hk]
theorem chkF_12 {n d : List UInt8} (h : chkZ n = 12 ∨ chkZ d = 12 ∨ d.head? = some 45 ∨ d = [48] ∨ d = [49]) : chkF n d = 12 := by unfold chkF; rw [if_pos h]
theorem chkZ_cases (l : List UInt8) : (chkZ l = 12 ∧ rdZ l = none) ∨ ∃ z, rdZ l = some z ∧ l = txtZ z ∧ chkZ l = if bigZ z = true then 14 else 0 := by
  cases e : rdZ l with
  | none => exact .inl ⟨chkZ_none e, rfl⟩
  | some z => right; have := rdZ_some e; exact ⟨z, rfl, this, by rw [this]; exact chkZ_txtZ z⟩
theorem chkZ_ne12 {z : Int} : chkZ (txtZ z) ≠ 12 := by rw [chkZ_txtZ]; split <;> decide
theorem txtZ_head (z : Int) : (txtZ z).head? = some 45 ↔ z < 0 := by
  unfold txtZ
  split
  · simp [*]
  · simp [*, txtN_head]
theorem chkF_some (x y : Int) (hy : 0 ≤ y) (h0 : txtZ y ≠ [48]) (h1 : txtZ y ≠ [49]) :
    chkF (txtZ x) (txtZ y) = if bigZ x = true ∨ bigZ y = true then 14 else if Nat.gcd x.natAbs y.natAbs = 1 then 0 else 12 := by
  unfold chkF gcdB
  rw [if_neg, chkZ_txtZ, chkZ_txtZ, rdZ_txtZ, rdZ_txtZ]
  · cases bigZ x <;> cases bigZ y <;> simp
  · rintro (h | h | h | h | h)
    · exact chkZ_ne12 h
    · exact chkZ_ne12 h
    · rw [txtZ_head] at h; omega
    · exact h0 h
    · exact h1 h
theorem txtZ_1 : txtZ 1 = [49] := by
  have : decN 1 = [1] := by unfold decN; rw [if_neg (by decide), decL_pos (by decide)]; show _ :: decL 0 = _; rw [decL_zero]
  show txtZ ((1 : Nat) : Int) = _
  rw [txtZ_pos]; unfold txtN; rw [this]; rfl
theorem txtZ_one (n : Nat) : txtZ (n : Int) = [49] ↔ n = 1 := by
  constructor
  · intro h
    have : txtZ (n : Int) = txtZ 1 := h.trans txtZ_1.symm
    have := txtZ_inj this; omega
  · rintro rfl; exact txtZ_1
theorem chkZ_one : chkZ [49] = 0 := by
  rw [← txtZ_1, chkZ_txtZ]
  have : decN 1 = [1] := by unfold decN; rw [if_neg (by decide), decL_pos (by decide)]; show _ :: decL 0 = _; rw [decL_zero]
  unfold bigZ; rw [show (1 : Int).natAbs = 1 from rfl, this]; rfl
theorem bigZ_one : bigZ 1 = false := by
  have := chkZ_one
  rw [← txtZ_1, chkZ_txtZ] at this
  cases h : bigZ 1 with
  | false => rfl
  | true => rw [h] at this; cases this

/-- The index of the first stroke, or -1. -/
def slI (l : List UInt8) : Int := if slN l < l.length then (slN l : Int) else -1
theorem slI_at {l : List UInt8} {k : Nat} (h : slN l = k) (hk : k < l.length) : slI l = k := by subst h; unfold slI; rw [if_pos hk]
theorem slI_none {l : List UInt8} (h : slN l = l.length) : slI l = -1 := by unfold slI; rw [if_neg (by omega)]

set_option maxHeartbeats 400000 in
theorem slash_any (s : ByteArray) (w : World) (hs : s.size ≤ 1000000) :
    Calls Tryz.prog 56 #[.string s] w fun e w' => e = .returned (.int .i64 (slI s.data.toList)) ∧ w = w' := by
  go_enter Tryz.func56, Tryz.ntmps56
  go_wp2_with fail
  go_loop [3] (fun i => ∃ k : Nat, k ≤ s.size ∧ i = .int .i64 k ∧ Hid (∀ j, j < k → s.data.toList[j]? ≠ some 47)) (fun i => s.size - (intOf i).toNat)
  case atStart => exact ⟨0, Nat.zero_le _, rfl, fun j hj => absurd hj (Nat.not_lt_zero _)⟩
  case round =>
    obtain ⟨k, hk, rfl, hd⟩ := hrel
    by_cases hlt : k < s.size
    · by_cases hc : ((s[k].toNat : Int) == 47) = true
      · have e : Hid (slI s.data.toList = k) := slI_at (slN_at (by rw [data_len]; exact hlt) hd.out (by rw [Lib.data_getElem? s k hlt, u8_eq (c := s[k]) (n := 47) (by simpa using hc) (by omega)]; rfl)) (by rw [data_len]; exact hlt)
        go_wp2
        go_ret
        exact ⟨ret_int e.out.symm, rfl⟩
      · have hc : ((s[k].toNat : Int) == 47) = false := by simpa using hc
        have HN : Hid (∀ j, j < k + 1 → s.data.toList[j]? ≠ some 47) := fun j hj => by
          by_cases e : j = k
          · subst e
            rw [Lib.data_getElem? s j hlt]
            intro h; injection h with h
            rw [h] at hc; cases hc
          · exact hd.out j (by omega)
        go_wp2
        go_round
        case rel => exact ⟨k + 1, by omega, by go_num, HN⟩
        case measure => simp [intOf]; omega
    · have e : Hid (slI s.data.toList = -1) := slI_none (slN_none fun j hj => hd.out j (by rw [data_len] at hj; omega))
      go_wp2
      go_ret
      exact ⟨ret_int e.out.symm, rfl⟩

/-- What 'written' hands back, where there is no stroke. -/
theorem written_int (s : ByteArray) (w : World) (hs : s.size ≤ 1000000) (h : slN s.data.toList = s.data.toList.length) :
    Calls Tryz.prog 54 #[.string s] w fun e w' => e = .returned (.tuple #[.string s, .string ⟨#[49]⟩]) ∧ w = w' := by
  have hc := slash_any s w hs
  rw [slI_none h] at hc
  have HC := Lib.hid hc
  clear hc h
  go_enter Tryz.func54, Tryz.ntmps54
  go_wp2_with fail
  refine HC.out.mono ?_
  rintro e w' ⟨rfl, rfl⟩
  go_wp2_with fail
  go_ret2
  exact ⟨rfl, rfl⟩
/-- .. at a stroke. -/
theorem written_frac (s : ByteArray) (k : Nat) (w : World) (hs : s.size ≤ 1000000) (h : slN s.data.toList = k) (hk : k < s.size) :
    Calls Tryz.prog 54 #[.string s] w fun e w' => e = .returned (.tuple #[.string (s.extract 0 k), .string (s.extract (k + 1) s.size)]) ∧ ∃ q, w' = w.drewN q := by
  have hc := slash_any s w hs
  rw [slI_at h (by rw [data_len]; exact hk)] at hc
  have HC := Lib.hid hc
  clear hc h
  have wr1 : IntKind.i64.wrap ((k : Int) + 1) = (k : Int) + 1 := by rw [IntKind.wrap_i64]; omega
  go_enter Tryz.func54, Tryz.ntmps54
  go_wp2_with fail
  refine HC.out.mono ?_
  rintro e w' ⟨rfl, rfl⟩
  go_wp2_with fail
  go_quiet (fail)
  go_wp2_with fail
  go_ret2
  exact ⟨rfl, _, rfl⟩

end Go.Proofs.YtdgmpgejemgbbaaGreatDoor

namespace Go.Proofs.YtdgmpgejemgbbaaGreatDoor
open Go.RowKit

/-- The parts of a rational are handed back. -/
def WrPost (w : World) (n d : ByteArray) (e : Ending) (w' : World) : Prop := e = .returned (.tuple #[.string n, .string d]) ∧ Below w.heap.size w w'
/-- A text and no error are handed back. -/
def GPost (w : World) (g : ByteArray) (e : Ending) (w' : World) : Prop := e = .returned (.tuple #[.string g, .int .i64 0]) ∧ Below w.heap.size w w'
/-- Digits, where it succeeds; where it fails. -/
def DigYes (w : World) (z : Int) (e : Ending) (w' : World) : Prop :=
  ∃ a n c, e = .returned (.tuple #[.slice a n c, .bool (decide (z < 0)), .bool true]) ∧ (decN z.natAbs).length = n ∧ Below w.heap.size w w'
def DigNo (w : World) (e : Ending) (w' : World) : Prop := e = .returned (.tuple #[.slice none 0 0, .bool false, .bool false]) ∧ Below w.heap.size w w'
theorem digits_yes (s : ByteArray) (z : Int) (w : World) (hs : s.size ≤ 1000000) (h : rdZ s.data.toList = some z) : Calls Tryz.prog 55 #[.string s] w (DigYes w z) :=
  (digits_any s w hs).mono fun e w' hp => by
    rcases hp with ⟨y, a, n, c, e1, e2, e3, _, _, e6⟩ | ⟨e1, _⟩
    · rw [h] at e1; injection e1 with e1; subst e1
      exact ⟨a, n, c, e2, e3, e6⟩
    · rw [h] at e1; cases e1
theorem digits_no (s : ByteArray) (w : World) (hs : s.size ≤ 1000000) (h : rdZ s.data.toList = none) : Calls Tryz.prog 55 #[.string s] w (DigNo w) :=
  (digits_any s w hs).mono fun e w' hp => by
    rcases hp with ⟨y, a, n, c, e1, _⟩ | ⟨_, e2, e3⟩
    · rw [h] at e1; cases e1
    · exact ⟨e2, e3⟩

set_option maxHeartbeats 1000000 in
set_option maxRecDepth 100000 in
theorem rc_nn (s n d : ByteArray) (HN : Hid (∀ W, Calls Tryz.prog 55 #[.string n] W (DigNo W))) (HD : Hid (∀ W, Calls Tryz.prog 55 #[.string d] W (DigNo W)))  (w : World)
    (HW : Hid (Calls Tryz.prog 54 #[.string s] w (WrPost w n d))) :
    Calls Tryz.prog 43 #[.string s] w (ErrPost w 12) := by
  go_enter Tryz.func43, Tryz.ntmps43
  go_wp2_with fail
  refine HW.out.mono ?_
  rintro e w1 ⟨rfl, b1⟩
  have B := Lib.hid b1
  clear b1
  go_wp2_with fail
  refine (HN.out _).mono ?_
  rintro e w2 ⟨rfl, b2⟩
  have B0 := Lib.hid (B.out.trans (b2.mono B.out.size))
  clear b2 B
  obtain ⟨B⟩ : Nonempty (Hid (Below w.heap.size w w2)) := ⟨B0⟩
  clear B0
  go_wp2_with fail
  refine (HD.out _).mono ?_
  rintro e w3 ⟨rfl, b3⟩
  have B1 := Lib.hid (B.out.trans (b3.mono B.out.size))
  clear b3 B
  obtain ⟨B⟩ : Nonempty (Hid (Below w.heap.size w w3)) := ⟨B1⟩
  clear B1
  go_wp2_with fail
  go_ret
  exact ⟨rfl, B.out⟩

set_option maxHeartbeats 1000000 in
set_option maxRecDepth 100000 in
theorem rc_ny (s n d : ByteArray) (y : Int) (HN : Hid (∀ W, Calls Tryz.prog 55 #[.string n] W (DigNo W))) (HD : Hid (∀ W, Calls Tryz.prog 55 #[.string d] W (DigYes W y))) (byy : Bool) (SY : Hid (decide (y < 0) = byy))  (w : World)
    (HW : Hid (Calls Tryz.prog 54 #[.string s] w (WrPost w n d))) :
    Calls Tryz.prog 43 #[.string s] w (ErrPost w 12) := by
  go_enter Tryz.func43, Tryz.ntmps43
  go_wp2_with fail
  refine HW.out.mono ?_
  rintro e w1 ⟨rfl, b1⟩
  have B := Lib.hid b1
  clear b1
  go_wp2_with fail
  refine (HN.out _).mono ?_
  rintro e w2 ⟨rfl, b2⟩
  have B0 := Lib.hid (B.out.trans (b2.mono B.out.size))
  clear b2 B
  obtain ⟨B⟩ : Nonempty (Hid (Below w.heap.size w w2)) := ⟨B0⟩
  clear B0
  go_wp2_with fail
  refine (HD.out _).mono ?_
  rintro e w3 ⟨a2, n2, c2, rfl, l3, b3⟩
  have B1 := Lib.hid (B.out.trans (b3.mono B.out.size))
  have L3 := Lib.hid l3
  clear b3 B l3
  obtain ⟨B⟩ : Nonempty (Hid (Below w.heap.size w w3)) := ⟨B1⟩
  clear B1
  rw [SY.out]
  go_wp2_with fail
  go_ret
  exact ⟨rfl, B.out⟩

set_option maxHeartbeats 1000000 in
set_option maxRecDepth 100000 in
theorem rc_yn (s n d : ByteArray) (x : Int) (HN : Hid (∀ W, Calls Tryz.prog 55 #[.string n] W (DigYes W x))) (HD : Hid (∀ W, Calls Tryz.prog 55 #[.string d] W (DigNo W))) (bx : Bool) (SX : Hid (decide (x < 0) = bx))  (w : World)
    (HW : Hid (Calls Tryz.prog 54 #[.string s] w (WrPost w n d))) :
    Calls Tryz.prog 43 #[.string s] w (ErrPost w 12) := by
  go_enter Tryz.func43, Tryz.ntmps43
  go_wp2_with fail
  refine HW.out.mono ?_
  rintro e w1 ⟨rfl, b1⟩
  have B := Lib.hid b1
  clear b1
  go_wp2_with fail
  refine (HN.out _).mono ?_
  rintro e w2 ⟨a1, n1, c1, rfl, l2, b2⟩
  have B0 := Lib.hid (B.out.trans (b2.mono B.out.size))
  have L2 := Lib.hid l2
  clear b2 B l2
  obtain ⟨B⟩ : Nonempty (Hid (Below w.heap.size w w2)) := ⟨B0⟩
  clear B0
  rw [SX.out]
  go_wp2_with fail
  refine (HD.out _).mono ?_
  rintro e w3 ⟨rfl, b3⟩
  have B1 := Lib.hid (B.out.trans (b3.mono B.out.size))
  clear b3 B
  obtain ⟨B⟩ : Nonempty (Hid (Below w.heap.size w w3)) := ⟨B1⟩
  clear B1
  go_wp2_with fail
  go_ret
  exact ⟨rfl, B.out⟩

set_option maxHeartbeats 1000000 in
set_option maxRecDepth 100000 in
theorem rc_neg (s n d : ByteArray) (x y : Int) (HN : Hid (∀ W, Calls Tryz.prog 55 #[.string n] W (DigYes W x))) (HD : Hid (∀ W, Calls Tryz.prog 55 #[.string d] W (DigYes W y))) (bx : Bool) (SX : Hid (decide (x < 0) = bx)) (SY : Hid (decide (y < 0) = true))  (w : World)
    (HW : Hid (Calls Tryz.prog 54 #[.string s] w (WrPost w n d))) :
    Calls Tryz.prog 43 #[.string s] w (ErrPost w 12) := by
  go_enter Tryz.func43, Tryz.ntmps43
  go_wp2_with fail
  refine HW.out.mono ?_
  rintro e w1 ⟨rfl, b1⟩
  have B := Lib.hid b1
  clear b1
  go_wp2_with fail
  refine (HN.out _).mono ?_
  rintro e w2 ⟨a1, n1, c1, rfl, l2, b2⟩
  have B0 := Lib.hid (B.out.trans (b2.mono B.out.size))
  have L2 := Lib.hid l2
  clear b2 B l2
  obtain ⟨B⟩ : Nonempty (Hid (Below w.heap.size w w2)) := ⟨B0⟩
  clear B0
  rw [SX.out]
  go_wp2_with fail
  refine (HD.out _).mono ?_
  rintro e w3 ⟨a2, n2, c2, rfl, l3, b3⟩
  have B1 := Lib.hid (B.out.trans (b3.mono B.out.size))
  have L3 := Lib.hid l3
  clear b3 B l3
  obtain ⟨B⟩ : Nonempty (Hid (Below w.heap.size w w3)) := ⟨B1⟩
  clear B1
  rw [SY.out]
  go_wp2_with fail
  go_ret
  exact ⟨rfl, B.out⟩

set_option maxHeartbeats 1000000 in
set_option maxRecDepth 100000 in
theorem rc_zero (s n d : ByteArray) (x y : Int) (HN : Hid (∀ W, Calls Tryz.prog 55 #[.string n] W (DigYes W x))) (HD : Hid (∀ W, Calls Tryz.prog 55 #[.string d] W (DigYes W y))) (bx : Bool) (SX : Hid (decide (x < 0) = bx)) (SY : Hid (decide (y < 0) = false)) (d0 : (d.toList == [48]) = true)  (w : World)
    (HW : Hid (Calls Tryz.prog 54 #[.string s] w (WrPost w n d))) :
    Calls Tryz.prog 43 #[.string s] w (ErrPost w 12) := by
  go_enter Tryz.func43, Tryz.ntmps43
  go_wp2_with fail
  refine HW.out.mono ?_
  rintro e w1 ⟨rfl, b1⟩
  have B := Lib.hid b1
  clear b1
  go_wp2_with fail
  refine (HN.out _).mono ?_
  rintro e w2 ⟨a1, n1, c1, rfl, l2, b2⟩
  have B0 := Lib.hid (B.out.trans (b2.mono B.out.size))
  have L2 := Lib.hid l2
  clear b2 B l2
  obtain ⟨B⟩ : Nonempty (Hid (Below w.heap.size w w2)) := ⟨B0⟩
  clear B0
  rw [SX.out]
  go_wp2_with fail
  refine (HD.out _).mono ?_
  rintro e w3 ⟨a2, n2, c2, rfl, l3, b3⟩
  have B1 := Lib.hid (B.out.trans (b3.mono B.out.size))
  have L3 := Lib.hid l3
  clear b3 B l3
  obtain ⟨B⟩ : Nonempty (Hid (Below w.heap.size w w3)) := ⟨B1⟩
  clear B1
  rw [SY.out]
  go_wp2_with fail
  go_ret
  exact ⟨rfl, B.out⟩

set_option maxHeartbeats 1000000 in
set_option maxRecDepth 100000 in
theorem rc_one (s n d : ByteArray) (x y : Int) (HN : Hid (∀ W, Calls Tryz.prog 55 #[.string n] W (DigYes W x))) (HD : Hid (∀ W, Calls Tryz.prog 55 #[.string d] W (DigYes W y))) (bx : Bool) (SX : Hid (decide (x < 0) = bx)) (SY : Hid (decide (y < 0) = false)) (d0 : (d.toList == [48]) = false) (d1 : (d.toList == [49]) = true) (i : Int) (HS : Hid (∀ W, Calls Tryz.prog 56 #[.string s] W fun e w' => e = .returned (.int .i64 i) ∧ W = w')) (hi : decide ((0 : Int) ≤ i) = true)  (w : World)
    (HW : Hid (Calls Tryz.prog 54 #[.string s] w (WrPost w n d))) :
    Calls Tryz.prog 43 #[.string s] w (ErrPost w 12) := by
  go_enter Tryz.func43, Tryz.ntmps43
  go_wp2_with fail
  refine HW.out.mono ?_
  rintro e w1 ⟨rfl, b1⟩
  have B := Lib.hid b1
  clear b1
  go_wp2_with fail
  refine (HN.out _).mono ?_
  rintro e w2 ⟨a1, n1, c1, rfl, l2, b2⟩
  have B0 := Lib.hid (B.out.trans (b2.mono B.out.size))
  have L2 := Lib.hid l2
  clear b2 B l2
  obtain ⟨B⟩ : Nonempty (Hid (Below w.heap.size w w2)) := ⟨B0⟩
  clear B0
  rw [SX.out]
  go_wp2_with fail
  refine (HD.out _).mono ?_
  rintro e w3 ⟨a2, n2, c2, rfl, l3, b3⟩
  have B1 := Lib.hid (B.out.trans (b3.mono B.out.size))
  have L3 := Lib.hid l3
  clear b3 B l3
  obtain ⟨B⟩ : Nonempty (Hid (Below w.heap.size w w3)) := ⟨B1⟩
  clear B1
  rw [SY.out]
  go_wp2_with fail
  refine (HS.out _).mono ?_
  rintro e w' ⟨rfl, rfl⟩
  go_wp2_with fail
  go_ret
  exact ⟨rfl, B.out⟩

set_option maxHeartbeats 1000000 in
set_option maxRecDepth 100000 in
theorem rc_big (s n d : ByteArray) (x y : Int) (HN : Hid (∀ W, Calls Tryz.prog 55 #[.string n] W (DigYes W x))) (HD : Hid (∀ W, Calls Tryz.prog 55 #[.string d] W (DigYes W y))) (bx : Bool) (SX : Hid (decide (x < 0) = bx)) (SY : Hid (decide (y < 0) = false)) (d0 : (d.toList == [48]) = false) (d1 : (d.toList == [49]) = false) (i : Int) (HS : Hid (∀ W, Calls Tryz.prog 56 #[.string s] W fun e w' => e = .returned (.int .i64 i) ∧ W = w')) (hi : decide ((0 : Int) ≤ i) = true) (HB : Hid (1000 < (decN x.natAbs).length ∨ 1000 < (decN y.natAbs).length))  (w : World)
    (HW : Hid (Calls Tryz.prog 54 #[.string s] w (WrPost w n d))) :
    Calls Tryz.prog 43 #[.string s] w (ErrPost w 14) := by
  go_enter Tryz.func43, Tryz.ntmps43
  go_wp2_with fail
  refine HW.out.mono ?_
  rintro e w1 ⟨rfl, b1⟩
  have B := Lib.hid b1
  clear b1
  go_wp2_with fail
  refine (HN.out _).mono ?_
  rintro e w2 ⟨a1, n1, c1, rfl, l2, b2⟩
  have B0 := Lib.hid (B.out.trans (b2.mono B.out.size))
  have L2 := Lib.hid l2
  clear b2 B l2
  obtain ⟨B⟩ : Nonempty (Hid (Below w.heap.size w w2)) := ⟨B0⟩
  clear B0
  rw [SX.out]
  go_wp2_with fail
  refine (HD.out _).mono ?_
  rintro e w3 ⟨a2, n2, c2, rfl, l3, b3⟩
  have B1 := Lib.hid (B.out.trans (b3.mono B.out.size))
  have L3 := Lib.hid l3
  clear b3 B l3
  obtain ⟨B⟩ : Nonempty (Hid (Below w.heap.size w w3)) := ⟨B1⟩
  clear B1
  rw [SY.out]
  go_wp2_with fail
  refine (HS.out _).mono ?_
  rintro e w' ⟨rfl, rfl⟩
  have l2 := L2.out
  have l3 := L3.out
  rcases HB.out with h | h
  · have hb : 1000 < n1 := by omega
    clear l2 l3 h
    go_wp2_with fail
    go_ret
    exact ⟨rfl, B.out⟩
  · by_cases hb : 1000 < n1
    · clear l2 l3 h
      go_wp2_with fail
      go_ret
      exact ⟨rfl, B.out⟩
    · have hb2 : 1000 < n2 := by omega
      clear l2 l3 h
      go_wp2_with fail
      go_ret
      exact ⟨rfl, B.out⟩

set_option maxHeartbeats 1000000 in
set_option maxRecDepth 100000 in
theorem rc_bigi (s n d : ByteArray) (x y : Int) (HN : Hid (∀ W, Calls Tryz.prog 55 #[.string n] W (DigYes W x))) (HD : Hid (∀ W, Calls Tryz.prog 55 #[.string d] W (DigYes W y))) (bx : Bool) (SX : Hid (decide (x < 0) = bx)) (SY : Hid (decide (y < 0) = false)) (d0 : (d.toList == [48]) = false) (i : Int) (HS : Hid (∀ W, Calls Tryz.prog 56 #[.string s] W fun e w' => e = .returned (.int .i64 i) ∧ W = w')) (hi : decide ((0 : Int) ≤ i) = false) (HB : Hid (1000 < (decN x.natAbs).length ∨ 1000 < (decN y.natAbs).length))  (w : World)
    (HW : Hid (Calls Tryz.prog 54 #[.string s] w (WrPost w n d))) :
    Calls Tryz.prog 43 #[.string s] w (ErrPost w 14) := by
  go_enter Tryz.func43, Tryz.ntmps43
  go_wp2_with fail
  refine HW.out.mono ?_
  rintro e w1 ⟨rfl, b1⟩
  have B := Lib.hid b1
  clear b1
  go_wp2_with fail
  refine (HN.out _).mono ?_
  rintro e w2 ⟨a1, n1, c1, rfl, l2, b2⟩
  have B0 := Lib.hid (B.out.trans (b2.mono B.out.size))
  have L2 := Lib.hid l2
  clear b2 B l2
  obtain ⟨B⟩ : Nonempty (Hid (Below w.heap.size w w2)) := ⟨B0⟩
  clear B0
  rw [SX.out]
  go_wp2_with fail
  refine (HD.out _).mono ?_
  rintro e w3 ⟨a2, n2, c2, rfl, l3, b3⟩
  have B1 := Lib.hid (B.out.trans (b3.mono B.out.size))
  have L3 := Lib.hid l3
  clear b3 B l3
  obtain ⟨B⟩ : Nonempty (Hid (Below w.heap.size w w3)) := ⟨B1⟩
  clear B1
  rw [SY.out]
  go_wp2_with fail
  refine (HS.out _).mono ?_
  rintro e w' ⟨rfl, rfl⟩
  have l2 := L2.out
  have l3 := L3.out
  rcases HB.out with h | h
  · have hb : 1000 < n1 := by omega
    clear l2 l3 h
    go_wp2_with fail
    go_ret
    exact ⟨rfl, B.out⟩
  · by_cases hb : 1000 < n1
    · clear l2 l3 h
      go_wp2_with fail
      go_ret
      exact ⟨rfl, B.out⟩
    · have hb2 : 1000 < n2 := by omega
      clear l2 l3 h
      go_wp2_with fail
      go_ret
      exact ⟨rfl, B.out⟩

set_option maxHeartbeats 1000000 in
set_option maxRecDepth 100000 in
theorem rc_gno (s n d : ByteArray) (x y : Int) (HN : Hid (∀ W, Calls Tryz.prog 55 #[.string n] W (DigYes W x))) (HD : Hid (∀ W, Calls Tryz.prog 55 #[.string d] W (DigYes W y))) (bx : Bool) (SX : Hid (decide (x < 0) = bx)) (SY : Hid (decide (y < 0) = false)) (d0 : (d.toList == [48]) = false) (d1 : (d.toList == [49]) = false) (i : Int) (HS : Hid (∀ W, Calls Tryz.prog 56 #[.string s] W fun e w' => e = .returned (.int .i64 i) ∧ W = w')) (hi : decide ((0 : Int) ≤ i) = true) (g : ByteArray) (HG : Hid (∀ W, Calls Tryz.prog 57 #[.string n, .string d] W (GPost W g))) (HSM : Hid ((decN x.natAbs).length ≤ 1000 ∧ (decN y.natAbs).length ≤ 1000)) (hg : (g.toList == [49]) = false)  (w : World)
    (HW : Hid (Calls Tryz.prog 54 #[.string s] w (WrPost w n d))) :
    Calls Tryz.prog 43 #[.string s] w (ErrPost w 12) := by
  go_enter Tryz.func43, Tryz.ntmps43
  go_wp2_with fail
  refine HW.out.mono ?_
  rintro e w1 ⟨rfl, b1⟩
  have B := Lib.hid b1
  clear b1
  go_wp2_with fail
  refine (HN.out _).mono ?_
  rintro e w2 ⟨a1, n1, c1, rfl, l2, b2⟩
  have B0 := Lib.hid (B.out.trans (b2.mono B.out.size))
  have L2 := Lib.hid l2
  clear b2 B l2
  obtain ⟨B⟩ : Nonempty (Hid (Below w.heap.size w w2)) := ⟨B0⟩
  clear B0
  rw [SX.out]
  go_wp2_with fail
  refine (HD.out _).mono ?_
  rintro e w3 ⟨a2, n2, c2, rfl, l3, b3⟩
  have B1 := Lib.hid (B.out.trans (b3.mono B.out.size))
  have L3 := Lib.hid l3
  clear b3 B l3
  obtain ⟨B⟩ : Nonempty (Hid (Below w.heap.size w w3)) := ⟨B1⟩
  clear B1
  rw [SY.out]
  go_wp2_with fail
  refine (HS.out _).mono ?_
  rintro e w' ⟨rfl, rfl⟩
  have l2 := L2.out
  have l3 := L3.out
  have hs1 := HSM.out
  have k2 : n1 ≤ 1000 := by omega
  have k3 : n2 ≤ 1000 := by omega
  clear l2 l3 hs1
  go_wp2_with fail
  refine (HG.out _).mono ?_
  rintro e w4 ⟨rfl, b4⟩
  have B4 := Lib.hid (B.out.trans (b4.mono B.out.size))
  clear b4
  go_wp2_with fail
  refine (HS.out _).mono ?_
  rintro e w' ⟨rfl, rfl⟩
  go_wp2_with fail
  go_ret
  exact ⟨rfl, B4.out⟩

set_option maxHeartbeats 1000000 in
set_option maxRecDepth 100000 in
theorem rc_gyes (s n d : ByteArray) (x y : Int) (HN : Hid (∀ W, Calls Tryz.prog 55 #[.string n] W (DigYes W x))) (HD : Hid (∀ W, Calls Tryz.prog 55 #[.string d] W (DigYes W y))) (bx : Bool) (SX : Hid (decide (x < 0) = bx)) (SY : Hid (decide (y < 0) = false)) (d0 : (d.toList == [48]) = false) (d1 : (d.toList == [49]) = false) (i : Int) (HS : Hid (∀ W, Calls Tryz.prog 56 #[.string s] W fun e w' => e = .returned (.int .i64 i) ∧ W = w')) (hi : decide ((0 : Int) ≤ i) = true) (g : ByteArray) (HG : Hid (∀ W, Calls Tryz.prog 57 #[.string n, .string d] W (GPost W g))) (HSM : Hid ((decN x.natAbs).length ≤ 1000 ∧ (decN y.natAbs).length ≤ 1000)) (hg : (g.toList == [49]) = true)  (w : World)
    (HW : Hid (Calls Tryz.prog 54 #[.string s] w (WrPost w n d))) :
    Calls Tryz.prog 43 #[.string s] w (ErrPost w 0) := by
  go_enter Tryz.func43, Tryz.ntmps43
  go_wp2_with fail
  refine HW.out.mono ?_
  rintro e w1 ⟨rfl, b1⟩
  have B := Lib.hid b1
  clear b1
  go_wp2_with fail
  refine (HN.out _).mono ?_
  rintro e w2 ⟨a1, n1, c1, rfl, l2, b2⟩
  have B0 := Lib.hid (B.out.trans (b2.mono B.out.size))
  have L2 := Lib.hid l2
  clear b2 B l2
  obtain ⟨B⟩ : Nonempty (Hid (Below w.heap.size w w2)) := ⟨B0⟩
  clear B0
  rw [SX.out]
  go_wp2_with fail
  refine (HD.out _).mono ?_
  rintro e w3 ⟨a2, n2, c2, rfl, l3, b3⟩
  have B1 := Lib.hid (B.out.trans (b3.mono B.out.size))
  have L3 := Lib.hid l3
  clear b3 B l3
  obtain ⟨B⟩ : Nonempty (Hid (Below w.heap.size w w3)) := ⟨B1⟩
  clear B1
  rw [SY.out]
  go_wp2_with fail
  refine (HS.out _).mono ?_
  rintro e w' ⟨rfl, rfl⟩
  have l2 := L2.out
  have l3 := L3.out
  have hs1 := HSM.out
  have k2 : n1 ≤ 1000 := by omega
  have k3 : n2 ≤ 1000 := by omega
  clear l2 l3 hs1
  go_wp2_with fail
  refine (HG.out _).mono ?_
  rintro e w4 ⟨rfl, b4⟩
  have B4 := Lib.hid (B.out.trans (b4.mono B.out.size))
  clear b4
  go_wp2_with fail
  refine (HS.out _).mono ?_
  rintro e w' ⟨rfl, rfl⟩
  go_wp2_with fail
  go_ret
  exact ⟨rfl, B4.out⟩

set_option maxHeartbeats 1000000 in
set_option maxRecDepth 100000 in
theorem rc_gi (s n d : ByteArray) (x y : Int) (HN : Hid (∀ W, Calls Tryz.prog 55 #[.string n] W (DigYes W x))) (HD : Hid (∀ W, Calls Tryz.prog 55 #[.string d] W (DigYes W y))) (bx : Bool) (SX : Hid (decide (x < 0) = bx)) (SY : Hid (decide (y < 0) = false)) (d0 : (d.toList == [48]) = false) (i : Int) (HS : Hid (∀ W, Calls Tryz.prog 56 #[.string s] W fun e w' => e = .returned (.int .i64 i) ∧ W = w')) (hi : decide ((0 : Int) ≤ i) = false) (g : ByteArray) (HG : Hid (∀ W, Calls Tryz.prog 57 #[.string n, .string d] W (GPost W g))) (HSM : Hid ((decN x.natAbs).length ≤ 1000 ∧ (decN y.natAbs).length ≤ 1000))  (w : World)
    (HW : Hid (Calls Tryz.prog 54 #[.string s] w (WrPost w n d))) :
    Calls Tryz.prog 43 #[.string s] w (ErrPost w 0) := by
  go_enter Tryz.func43, Tryz.ntmps43
  go_wp2_with fail
  refine HW.out.mono ?_
  rintro e w1 ⟨rfl, b1⟩
  have B := Lib.hid b1
  clear b1
  go_wp2_with fail
  refine (HN.out _).mono ?_
  rintro e w2 ⟨a1, n1, c1, rfl, l2, b2⟩
  have B0 := Lib.hid (B.out.trans (b2.mono B.out.size))
  have L2 := Lib.hid l2
  clear b2 B l2
  obtain ⟨B⟩ : Nonempty (Hid (Below w.heap.size w w2)) := ⟨B0⟩
  clear B0
  rw [SX.out]
  go_wp2_with fail
  refine (HD.out _).mono ?_
  rintro e w3 ⟨a2, n2, c2, rfl, l3, b3⟩
  have B1 := Lib.hid (B.out.trans (b3.mono B.out.size))
  have L3 := Lib.hid l3
  clear b3 B l3
  obtain ⟨B⟩ : Nonempty (Hid (Below w.heap.size w w3)) := ⟨B1⟩
  clear B1
  rw [SY.out]
  go_wp2_with fail
  refine (HS.out _).mono ?_
  rintro e w' ⟨rfl, rfl⟩
  have l2 := L2.out
  have l3 := L3.out
  have hs1 := HSM.out
  have k2 : n1 ≤ 1000 := by omega
  have k3 : n2 ≤ 1000 := by omega
  clear l2 l3 hs1
  go_wp2_with fail
  refine (HG.out _).mono ?_
  rintro e w4 ⟨rfl, b4⟩
  have B4 := Lib.hid (B.out.trans (b4.mono B.out.size))
  clear b4
  go_wp2_with fail
  refine (HS.out _).mono ?_
  rintro e w' ⟨rfl, rfl⟩
  go_wp2_with fail
  go_ret
  exact ⟨rfl, B4.out⟩

end Go.Proofs.YtdgmpgejemgbbaaGreatDoor

namespace Go.Proofs.YtdgmpgejemgbbaaGreatDoor
open Go.RowKit

theorem list_beq {l m : List UInt8} : (l == m) = false ↔ l ≠ m := by simp
theorem SEPost.g {w : World} {l : List UInt8} : SEPost w l 0 = GPost w ⟨l.toArray⟩ := rfl
theorem decN_1 : (decN (1 : Int).natAbs).length = 1 := by
  have : decN 1 = [1] := by unfold decN; rw [if_neg (by decide), decL_pos (by decide)]; show _ :: decL 0 = _; rw [decL_zero]
  show (decN 1).length = 1
  rw [this]; rfl
theorem bigZ_false {z : Int} (h : bigZ z = false) : (decN z.natAbs).length ≤ 1000 := by unfold bigZ at h; simpa using h
theorem bigZ_true {z : Int} (h : bigZ z = true) : 1000 < (decN z.natAbs).length := by unfold bigZ at h; simpa using h

/-- What the reference's Gcd comes to. -/
theorem rgcd_of (n d : ByteArray) (x y : Int) (W : World) (hn : n.data.toList = txtZ x) (hd : d.data.toList = txtZ y) (bx : bigZ x = false) (byy : bigZ y = false) (h1 : n.size ≤ 1000000) (h2 : d.size ≤ 1000000) :
    Calls Tryz.prog 57 #[.string n, .string d] W (GPost W ⟨(txtZ (Nat.gcd x.natAbs y.natAbs : Int)).toArray⟩) := rgcd_good n d x y W hn hd bx byy h1 h2

/-- An integer. -/
theorem rrat_int (s : ByteArray) (w : World) (hs : s.size ≤ 1000000) (h : slN s.data.toList = s.data.toList.length) :
    Calls Tryz.prog 43 #[.string s] w (ErrPost w (chkR s.data.toList)) := by
  have HW : Hid (Calls Tryz.prog 54 #[.string s] w (WrPost w s ⟨#[49]⟩)) := (written_int s w hs h).mono fun e w' ⟨e1, e2⟩ => ⟨e1, by subst e2; exact Below.refl _ _⟩
  have hd1 : rdZ (⟨#[49]⟩ : ByteArray).data.toList = some 1 := by show rdZ [49] = _; rw [← txtZ_1, rdZ_txtZ]
  have HD : Hid (∀ W, Calls Tryz.prog 55 #[.string ⟨#[49]⟩] W (DigYes W 1)) := fun W => digits_yes _ 1 W (by show (1 : Nat) ≤ _; omega) hd1
  have HS : Hid (∀ W, Calls Tryz.prog 56 #[.string s] W fun e w' => e = .returned (.int .i64 (-1)) ∧ W = w') := fun W => by
    have := slash_any s W hs
    rwa [slI_none h] at this
  rw [chkR_int h]
  rcases chkZ_cases s.data.toList with ⟨e1, e2⟩ | ⟨x, e1, e2, e3⟩
  · rw [e1]
    exact rc_ny s s _ 1 (fun W => digits_no s W hs e2) HD false rfl w HW
  · have HN : Hid (∀ W, Calls Tryz.prog 55 #[.string s] W (DigYes W x)) := fun W => digits_yes s x W hs e1
    cases hb : bigZ x with
    | true =>
      rw [e3, hb, if_pos rfl]
      exact rc_bigi s s _ x 1 HN HD _ rfl rfl (by rw [toList_data]; rfl) (-1) HS rfl (.inl (bigZ_true hb)) w HW
    | false =>
      rw [e3, hb, if_neg (by simp)]
      exact rc_gi s s _ x 1 HN HD _ rfl rfl (by rw [toList_data]; rfl) (-1) HS rfl _ (fun W => rgcd_of s ⟨#[49]⟩ x 1 W e2 txtZ_1.symm hb bigZ_one hs (by show (1 : Nat) ≤ _; omega)) ⟨bigZ_false hb, by rw [decN_1]; omega⟩ w HW

/-- A fraction. -/
theorem rrat_frac (s : ByteArray) (k : Nat) (w : World) (hs : s.size ≤ 1000000) (h : slN s.data.toList = k) (hk : k < s.size) :
    Calls Tryz.prog 43 #[.string s] w (ErrPost w (chkR s.data.toList)) := by
  rw [chkR_frac h (by rw [data_len]; exact hk)]
  have HW0 := written_frac s k w hs h hk
  have HSI : ∀ W, Calls Tryz.prog 56 #[.string s] W fun e w' => e = .returned (.int .i64 (k : Int)) ∧ W = w' := fun W => by
    have := slash_any s W hs
    rwa [slI_at h (by rw [data_len]; exact hk)] at this
  obtain ⟨n, hn⟩ : ∃ n, n = s.extract 0 k := ⟨_, rfl⟩
  obtain ⟨d, hd⟩ : ∃ d, d = s.extract (k + 1) s.size := ⟨_, rfl⟩
  rw [← hn, ← hd] at HW0
  have en : s.data.toList.take k = n.data.toList := by rw [hn, Lib.extract_data]; simp
  have ed : s.data.toList.drop (k + 1) = d.data.toList := by rw [hd, Lib.extract_to_end]
  rw [en, ed]
  have sn : n.size ≤ 1000000 := by rw [hn]; simp; omega
  have sd : d.size ≤ 1000000 := by rw [hd]; simp; omega
  have HW : Hid (Calls Tryz.prog 54 #[.string s] w (WrPost w n d)) := HW0.mono fun e w' ⟨e1, q, e2⟩ => ⟨e1, by subst e2; exact below_drewN (Below.refl _ _) q⟩
  have HS := Lib.hid HSI
  have hi : decide ((0 : Int) ≤ (k : Int)) = true := by simp
  clear HW0 HSI hn hd en ed h hk
  rcases chkZ_cases n.data.toList with ⟨n1, n2⟩ | ⟨x, n1, n2, n3⟩
  · rw [chkF_12 (.inl n1)]
    rcases chkZ_cases d.data.toList with ⟨d1, d2⟩ | ⟨y, d1, d2, d3⟩
    · exact rc_nn s n d (fun W => digits_no n W sn n2) (fun W => digits_no d W sd d2) w HW
    · exact rc_ny s n d y (fun W => digits_no n W sn n2) (fun W => digits_yes d y W sd d1) _ rfl w HW
  · have HN : Hid (∀ W, Calls Tryz.prog 55 #[.string n] W (DigYes W x)) := fun W => digits_yes n x W sn n1
    rcases chkZ_cases d.data.toList with ⟨d1, d2⟩ | ⟨y, d1, d2, d3⟩
    · rw [chkF_12 (.inr (.inl d1))]
      exact rc_yn s n d x HN (fun W => digits_no d W sd d2) _ rfl w HW
    · have HD : Hid (∀ W, Calls Tryz.prog 55 #[.string d] W (DigYes W y)) := fun W => digits_yes d y W sd d1
      by_cases hy : y < 0
      · rw [chkF_12 (.inr (.inr (.inl (by rw [d2, txtZ_head]; exact hy))))]
        exact rc_neg s n d x y HN HD _ rfl (by show decide _ = true; simpa using hy) w HW
      · have hy' : decide (y < 0) = false := by simpa using hy
        by_cases h0 : d.data.toList = [48]
        · rw [chkF_12 (.inr (.inr (.inr (.inl h0))))]
          exact rc_zero s n d x y HN HD _ rfl hy' (by rw [toList_data, h0]; rfl) w HW
        · have h0' : (d.toList == [48]) = false := by rw [toList_data]; exact list_beq.2 h0
          by_cases h1 : d.data.toList = [49]
          · rw [chkF_12 (.inr (.inr (.inr (.inr h1))))]
            exact rc_one s n d x y HN HD _ rfl hy' h0' (by rw [toList_data, h1]; rfl) _ HS hi w HW
          · have h1' : (d.toList == [49]) = false := by rw [toList_data]; exact list_beq.2 h1
            have ef : chkF n.data.toList d.data.toList = if bigZ x = true ∨ bigZ y = true then 14 else if Nat.gcd x.natAbs y.natAbs = 1 then 0 else 12 := by
              rw [n2, d2]; exact chkF_some x y (by omega) (by rw [← d2]; exact h0) (by rw [← d2]; exact h1)
            rw [ef]
            by_cases hb : bigZ x = true ∨ bigZ y = true
            · rw [if_pos hb]
              exact rc_big s n d x y HN HD _ rfl hy' h0' h1' _ HS hi (by
                rcases hb with hb | hb
                · exact .inl (bigZ_true hb)
                · exact .inr (bigZ_true hb)) w HW
            · rw [if_neg hb]
              have bx : bigZ x = false := by cases h : bigZ x with | false => rfl | true => exact absurd (.inl h) hb
              have by2 : bigZ y = false := by cases h : bigZ y with | false => rfl | true => exact absurd (.inr h) hb
              have HG : Hid (∀ W, Calls Tryz.prog 57 #[.string n, .string d] W (GPost W ⟨(txtZ (Nat.gcd x.natAbs y.natAbs : Int)).toArray⟩)) := fun W => rgcd_of n d x y W n2 d2 bx by2 sn sd
              by_cases hg : Nat.gcd x.natAbs y.natAbs = 1
              · rw [if_pos hg]
                exact rc_gyes s n d x y HN HD _ rfl hy' h0' h1' _ HS hi _ HG ⟨bigZ_false bx, bigZ_false by2⟩ (by rw [toList_data, hg]; show ((txtZ ((1 : Nat) : Int)) == [49]) = true; rw [(txtZ_one 1).2 rfl]; rfl) w HW
              · rw [if_neg hg]
                exact rc_gno s n d x y HN HD _ rfl hy' h0' h1' _ HS hi _ HG ⟨bigZ_false bx, bigZ_false by2⟩ (by rw [toList_data]; exact list_beq.2 (fun h => hg ((txtZ_one _).1 h))) w HW

theorem rrat_any (s : ByteArray) (w : World) (hs : s.size ≤ 1000000) :
    Calls Tryz.prog 43 #[.string s] w (ErrPost w (chkR s.data.toList)) := by
  by_cases h : slN s.data.toList < s.size
  · exact rrat_frac s _ w hs rfl h
  · exact rrat_int s w hs (by have := slN_le s.data.toList; rw [data_len] at this ⊢; omega)

end Go.Proofs.YtdgmpgejemgbbaaGreatDoor
