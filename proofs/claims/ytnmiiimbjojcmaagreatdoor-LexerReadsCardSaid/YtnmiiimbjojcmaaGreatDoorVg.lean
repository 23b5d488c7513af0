/-
  The reference's Check of rationals: Slash, written. No condition. The reference's Check of rationals. No condition. The reference's Check of rationals, joined. No condition.
-/
import Derived.Test.YtnmiiimbjojcmaaGreatDoorVf
namespace Go.Proofs.YtnmiiimbjojcmaaGreatDoor
open Go.RowKit

/-- The place of the first stroke; the length, if there is none. -/
def slN (l : List UInt8) : Nat := (l.takeWhile (fun c => c != 47)).length
theorem slN_le (l : List UInt8) : slN l ≤ l.length := (List.takeWhile_sublist _).length_le
theorem slN_at {l : List UInt8} {k : Nat} (hk : k < l.length) (h0 : ∀ j, j < k → l[j]? ≠ some 47) (h : l[k]? = some 47) : slN l = k := by
  induction l generalizing k with
  | nil => simp at hk
  | cons c l ih =>
    cases k with
    | zero => simp at h; subst h; rfl
    | succ k =>
      have hc : c ≠ 47 := by have := h0 0 (by omega); simpa using this
      have := ih (k := k) (by simpa using hk) (fun j hj => by have := h0 (j + 1) (by omega); simpa using this) (by simpa using h)
      unfold slN at this ⊢
      rw [List.takeWhile_cons, if_pos (by simpa using hc)]
      simp [this]
theorem slN_none {l : List UInt8} (h0 : ∀ j, j < l.length → l[j]? ≠ some 47) : slN l = l.length := by
  induction l with
  | nil => rfl
  | cons c l ih =>
    have hc : c ≠ 47 := by have := h0 0 (by simp); simpa using this
    have := ih (fun j hj => by have := h0 (j + 1) (by simpa using hj); simpa using this)
    unfold slN at this ⊢
    rw [List.takeWhile_cons, if_pos (by simpa using hc)]
    simp [this]
theorem slN_spec {l : List UInt8} (h : slN l < l.length) : l[slN l]? = some 47 ∧ ∀ j, j < slN l → l[j]? ≠ some 47 := by
  induction l with
  | nil => simp at h
  | cons c l ih =>
    by_cases hc : c = 47
    · subst hc
      have e : slN (47 :: l) = 0 := rfl
      rw [e]; exact ⟨rfl, fun j hj => by omega⟩
    · have e : slN (c :: l) = slN l + 1 := by unfold slN; rw [List.takeWhile_cons, if_pos (by simpa using hc)]; rfl
      rw [e] at h ⊢
      obtain ⟨h1, h2⟩ := ih (by simpa using h)
      refine ⟨by simpa using h1, fun j hj => ?_⟩
      cases j with
      | zero => simpa using hc
      | succ j => have := h2 j (by omega); simpa using this
/-- The greatest common divisor of two texts. -/
def gcdB (n d : List UInt8) : Nat := match rdZ n, rdZ d with
  | some x, some y => Nat.gcd x.natAbs y.natAbs
  | _, _ => 0
/-- The error of a fraction's parts. -/
def chkF (n d : List UInt8) : Int :=
  if chkZ n = 12 ∨ chkZ d = 12 ∨ d.head? = some 45 ∨ d = [48] ∨ d = [49] then 12
  else if chkZ n = 14 ∨ chkZ d = 14 then 14 else if gcdB n d = 1 then 0 else 12
/-- The error of a rational. -/
def chkR (l : List UInt8) : Int := if slN l < l.length then chkF (l.take (slN l)) (l.drop (slN l + 1)) else chkZ l
theorem chkR_int {l : List UInt8} (h : slN l = l.length) : chkR l = chkZ l := by unfold chkR; rw [if_neg (by omega)]
theorem chkR_frac {l : List UInt8} {k : Nat} (h : slN l = k) (hk : k < l.length) : chkR l = chkF (l.take k) (l.drop (k + 1)) := by subst h; unfold chkR; rw [if_pos hk]
theorem chkF_12 {n d : List UInt8} (h : chkZ n = 12 ∨ chkZ d = 12 ∨ d.head? = some 45 ∨ d = [48] ∨ d = [49]) : chkF n d = 12 := by unfold chkF; rw [if_pos h]
theorem chkZ_cases (l : List UInt8) : (chkZ l = 12 ∧ rdZ l = none) ∨ ∃ z, rdZ l = some z ∧ l = txtZ z ∧ chkZ l = if bigZ z = true then 14 else 0 := by
  cases e : rdZ l with
  | none => exact .inl ⟨chkZ_none e, rfl⟩
  | some z => right; have := rdZ_some e; exact ⟨z, rfl, this, by rw [this]; exact chkZ_txtZ z⟩
theorem chkZ_ne12 {z : Int} : chkZ (txtZ z) ≠ 12 := by rw [chkZ_txtZ]; split <;> decide
theorem txtZ_head (z : Int) : (txtZ z).head? = some 45 ↔ z < 0 := by
  unfold txtZ
  split
  · simp [*]
  · simp [*, txtN_head]
theorem chkF_some (x y : Int) (hy : 0 ≤ y) (h0 : txtZ y ≠ [48]) (h1 : txtZ y ≠ [49]) :
    chkF (txtZ x) (txtZ y) = if bigZ x = true ∨ bigZ y = true then 14 else if Nat.gcd x.natAbs y.natAbs = 1 then 0 else 12 := by
  unfold chkF gcdB
  rw [if_neg, chkZ_txtZ, chkZ_txtZ, rdZ_txtZ, rdZ_txtZ]
  · cases bigZ x <;> cases bigZ y <;> simp
  · rintro (h | h | h | h | h)
    · exact chkZ_ne12 h
    · exact chkZ_ne12 h
    · rw [txtZ_head] at h; omega
    · exact h0 h
    · exact h1 h
theorem txtZ_1 : txtZ 1 = [49] := by
  have : decN 1 = [1] := by unfold decN; rw [if_neg (by decide), decL_pos (by decide)]; show _ :: decL 0 = _; rw [decL_zero]
  show txtZ ((1 : Nat) : Int) = _
  rw [txtZ_pos]; unfold txtN; rw [this]; rfl
theorem txtZ_one (n : Nat) : txtZ (n : Int) = [49] ↔ n = 1 := by
  constructor
  · intro h
    have : txtZ (n : Int) = txtZ 1 := h.trans txtZ_1.symm
    have := txtZ_inj this; omega
  · rintro rfl; exact txtZ_1
theorem chkZ_one : chkZ [49] = 0 := by
  rw [← txtZ_1, chkZ_txtZ]
  have : decN 1 = [1] := by unfold decN; rw [if_neg (by decide), decL_pos (by decide)]; show _ :: decL 0 = _; rw [decL_zero]
  unfold bigZ; rw [show (1 : Int).natAbs = 1 from rfl, this]; rfl
theorem bigZ_one : bigZ 1 = false := by
  have := chkZ_one
  rw [← txtZ_1, chkZ_txtZ] at this
  cases h : bigZ 1 with
  | false => rfl
  | true => rw [h] at this; cases this

/-- The index of the first stroke, or -1. -/
def slI (l : List UInt8) : Int := if slN l < l.length then (slN l : Int) else -1
theorem slI_at {l : List UInt8} {k : Nat} (h : slN l = k) (hk : k < l.length) : slI l = k := by subst h; unfold slI; rw [if_pos hk]
theorem slI_none {l : List UInt8} (h : slN l = l.length) : slI l = -1 := by unfold slI; rw [if_neg (by omega)]

end Go.Proofs.YtnmiiimbjojcmaaGreatDoor

namespace Go.Proofs.YtnmiiimbjojcmaaGreatDoor
open Go.RowKit

/-- The parts of a rational are handed back. -/
def WrPost (w : World) (n d : ByteArray) (e : Ending) (w' : World) : Prop := e = .returned (.tuple #[.string n, .string d]) ∧ Below w.heap.size w w'
/-- A text and no error are handed back. -/
def GPost (w : World) (g : ByteArray) (e : Ending) (w' : World) : Prop := e = .returned (.tuple #[.string g, .int .i64 0]) ∧ Below w.heap.size w w'
/-- Digits, where it succeeds; where it fails. -/
def DigYes (w : World) (z : Int) (e : Ending) (w' : World) : Prop :=
  ∃ a n c, e = .returned (.tuple #[.slice a n c, .bool (decide (z < 0)), .bool true]) ∧ (decN z.natAbs).length = n ∧ Below w.heap.size w w'
def DigNo (w : World) (e : Ending) (w' : World) : Prop := e = .returned (.tuple #[.slice none 0 0, .bool false, .bool false]) ∧ Below w.heap.size w w'
theorem digits_yes (s : ByteArray) (z : Int) (w : World) (hs : s.size ≤ 1000000) (h : rdZ s.data.toList = some z) : Calls Tryz.prog 111 #[.string s] w (DigYes w z) :=
  (digits_any s w hs).mono fun e w' hp => by
    rcases hp with ⟨y, a, n, c, e1, e2, e3, _, _, e6⟩ | ⟨e1, _⟩
    · rw [h] at e1; injection e1 with e1; subst e1
      exact ⟨a, n, c, e2, e3, e6⟩
    · rw [h] at e1; cases e1
theorem digits_no (s : ByteArray) (w : World) (hs : s.size ≤ 1000000) (h : rdZ s.data.toList = none) : Calls Tryz.prog 111 #[.string s] w (DigNo w) :=
  (digits_any s w hs).mono fun e w' hp => by
    rcases hp with ⟨y, a, n, c, e1, _⟩ | ⟨_, e2, e3⟩
    · rw [h] at e1; cases e1
    · exact ⟨e2, e3⟩

end Go.Proofs.YtnmiiimbjojcmaaGreatDoor

namespace Go.Proofs.YtnmiiimbjojcmaaGreatDoor
open Go.RowKit

theorem list_beq {l m : List UInt8} : (l == m) = false ↔ l ≠ m := by simp
theorem SEPost.g {w : World} {l : List UInt8} : SEPost w l 0 = GPost w ⟨l.toArray⟩ := rfl
theorem decN_1 : (decN (1 : Int).natAbs).length = 1 := by
  have : decN 1 = [1] := by unfold decN; rw [if_neg (by decide), decL_pos (by decide)]; show _ :: decL 0 = _; rw [decL_zero]
  show (decN 1).length = 1
  rw [this]; rfl
theorem bigZ_false {z : Int} (h : bigZ z = false) : (decN z.natAbs).length ≤ 1000 := by unfold bigZ at h; simpa using h
theorem bigZ_true {z : Int} (h : bigZ z = true) : 1000 < (decN z.natAbs).length := by unfold bigZ at h; simpa using h

/-- What the reference's Gcd comes to. -/
theorem rgcd_of (n d : ByteArray) (x y : Int) (W : World) (hn : n.data.toList = txtZ x) (hd : d.data.toList = txtZ y) (bx : bigZ x = false) (byy : bigZ y = false) (h1 : n.size ≤ 1000000) (h2 : d.size ≤ 1000000) :
    Calls Tryz.prog 95 #[.string n, .string d] W (GPost W ⟨(txtZ (Nat.gcd x.natAbs y.natAbs : Int)).toArray⟩) := rgcd_good n d x y W hn hd bx byy h1 h2

end Go.Proofs.YtnmiiimbjojcmaaGreatDoor
