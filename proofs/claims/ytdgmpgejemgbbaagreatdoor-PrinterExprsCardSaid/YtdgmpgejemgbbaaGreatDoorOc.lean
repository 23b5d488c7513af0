/-
  The text of a day: the program's day and the reference's, of a day from 0 to 99999. No condition. The signs of the operators. No condition. The reference's sum: is an expression a sum or a difference. No condition. The text of an expression, as the program writes it and as the reference does: one and the same. No condition, no program. The reference's part, of a text that Expr gives. No condition but the text's length.
-/
import Derived.Test.YtdgmpgejemgbbaaGreatDoorOb
import Derived.Test.YtdgmpgejemgbbaaGreatDoorWa
import Derived.Test.YtdgmpgejemgbbaaGreatDoorOa
namespace Go.Proofs.YtdgmpgejemgbbaaGreatDoor
open Go.RowKit

/-- The text of a day. -/
noncomputable def dtxt (n : Int) : List UInt8 := dateB (date_exists n.toNat).choose (date_exists n.toNat).choose_spec.choose (date_exists n.toNat).choose_spec.choose_spec.choose
def TPost (w : World) (s : ByteArray) (n : Int) (e : Ending) (w' : World) : Prop := e = .returned (.tuple #[.string s, .int .i64 n]) ∧ Below w.heap.size w w'
theorem dtext_is {n : Int} (h0 : 0 ≤ n) (h1 : n ≤ 99999) (W : World) : Calls Tryz.prog 42 #[.int .i64 n] W (TPost W ⟨(dtxt n).toArray⟩ 0) := by
  have hd := (date_exists n.toNat).choose_spec.choose_spec.choose_spec
  have := dtext_ok n.toNat _ _ _ W (by omega) hd
  rwa [show ((n.toNat : Nat) : Int) = n by omega] at this
theorem rdtext_is {n : Int} (h0 : 0 ≤ n) (h1 : n ≤ 99999) (W : World) : Calls Tryz.prog 45 #[.int .i64 n] W (TPost W ⟨(dtxt n).toArray⟩ 0) := by
  have hd := (date_exists n.toNat).choose_spec.choose_spec.choose_spec
  have := rdtext_ok n.toNat _ _ _ W (by omega) hd
  rwa [show ((n.toNat : Nat) : Int) = n by omega] at this
/-- The text of a day as a string. -/
noncomputable def dS (n : Int) : ByteArray := ⟨(dtxt n).toArray⟩

set_option maxHeartbeats 1000000 in
theorem pdayT_is {n : Int} (h0 : 0 ≤ n) (h1 : n ≤ 99999) (w : World) : Calls Tryz.prog 27 #[.int .i64 n] w (fun e w' => e = .returned (.string (dS n)) ∧ Below w.heap.size w w') := by
  have HD : Hid (∀ W, Calls Tryz.prog 42 #[.int .i64 n] W (TPost W (dS n) 0)) := Lib.hid (fun W => dtext_is h0 h1 W)
  obtain ⟨d, hd⟩ : ∃ d, d = dS n := ⟨_, rfl⟩
  rw [← hd] at HD ⊢
  clear hd h0 h1
  go_enter Tryz.func27, Tryz.ntmps27
  go_wp2_with fail
  refine (HD.out _).mono ?_
  rintro e w' ⟨rfl, hb⟩
  have HB := Lib.hid hb
  clear hb
  go_wp2_with fail
  go_ret
  exact ⟨rfl, HB.out⟩

set_option maxHeartbeats 1000000 in
theorem rdayT_is {n : Int} (h0 : 0 ≤ n) (h1 : n ≤ 99999) (w : World) : Calls Tryz.prog 33 #[.int .i64 n] w (fun e w' => e = .returned (.string (dS n)) ∧ Below w.heap.size w w') := by
  have HD : Hid (∀ W, Calls Tryz.prog 45 #[.int .i64 n] W (TPost W (dS n) 0)) := Lib.hid (fun W => rdtext_is h0 h1 W)
  obtain ⟨d, hd⟩ : ∃ d, d = dS n := ⟨_, rfl⟩
  rw [← hd] at HD ⊢
  clear hd h0 h1
  go_enter Tryz.func33, Tryz.ntmps33
  go_wp2_with fail
  refine (HD.out _).mono ?_
  rintro e w' ⟨rfl, hb⟩
  have HB := Lib.hid hb
  clear hb
  go_wp2_with fail
  go_ret
  exact ⟨rfl, HB.out⟩

end Go.Proofs.YtdgmpgejemgbbaaGreatDoor

namespace Go.Proofs.YtdgmpgejemgbbaaGreatDoor
open Go.RowKit

def opS (k : Int) : ByteArray := if k = 4 then ByteArray.mk #[32, 43, 32] else if k = 5 then ByteArray.mk #[32, 45, 32] else if k = 6 then ByteArray.mk #[32, 42, 32] else ByteArray.mk #[]
def opO (k : Int) : Int := if k = 4 then 0 else if k = 5 then 0 else if k = 6 then 1 else 2
def opN (k : Int) : Int := if k = 4 then 1 else if k = 5 then 1 else 2
theorem op_beq_no {a b : Int} (h : a ≠ b) : (a == b) = false := by simpa using h

set_option maxHeartbeats 1000000 in
theorem oper_any (k : Int) (w : World) : Calls Tryz.prog 25 #[.int .u8 k] w (fun e w' => e = .returned (.tuple #[.string (opS k), .int .i64 (opO k), .int .i64 (opN k)]) ∧ w = w') := by
  by_cases h4 : k = 4
  · subst h4
    go_enter Tryz.func25, Tryz.ntmps25
    go_wp2_with fail
    go_ret3
    exact ⟨rfl, rfl⟩
  by_cases h5 : k = 5
  · subst h5
    go_enter Tryz.func25, Tryz.ntmps25
    go_wp2_with fail
    go_ret3
    exact ⟨rfl, rfl⟩
  by_cases h6 : k = 6
  · subst h6
    go_enter Tryz.func25, Tryz.ntmps25
    go_wp2_with fail
    go_ret3
    exact ⟨rfl, rfl⟩
  have e4 := op_beq_no h4
  have e5 := op_beq_no h5
  have e6 := op_beq_no h6
  have eS : opS k = ByteArray.mk #[] := by unfold opS; rw [if_neg h4, if_neg h5, if_neg h6]
  have eO : opO k = 2 := by unfold opO; rw [if_neg h4, if_neg h5, if_neg h6]
  have eN : opN k = 2 := by unfold opN; rw [if_neg h4, if_neg h5]
  rw [eS, eO, eN]
  clear eS eO eN h4 h5 h6
  go_enter Tryz.func25, Tryz.ntmps25
  go_wp2_with fail
  go_ret3
  exact ⟨rfl, rfl⟩

end Go.Proofs.YtdgmpgejemgbbaaGreatDoor

namespace Go.Proofs.YtdgmpgejemgbbaaGreatDoor
open Go.RowKit

set_option maxHeartbeats 1000000 in
theorem rsum_any (k d : Int) (r n : ByteArray) (a : Option Addr) (l c : Nat) (w : World) : Calls Tryz.prog 35 #[.agg #[.int .u8 k, .string r, .string n, .int .i64 d, .slice a l c]] w (BelB w (k == 4 || k == 5)) := by
  cases e4 : (k == 4) <;> cases e5 : (k == 5) <;>
  · go_enter Tryz.func35, Tryz.ntmps35
    go_wp2_with fail
    go_ret
    exact ⟨rfl, own_below w _⟩

end Go.Proofs.YtdgmpgejemgbbaaGreatDoor

namespace Go.Proofs.YtdgmpgejemgbbaaGreatDoor
open Go.RowKit

/-- The words of the kinds. -/
def wdL (k : Int) : List UInt8 := if k = 7 then [109, 97, 120] else if k = 8 then [109, 105, 110] else if k = 9 then [99, 97, 115, 101] else if k = 11 then [108, 101, 115, 115] else if k = 12 then [101, 113, 117, 97, 108] else if k = 13 then [97, 110, 100] else if k = 14 then [111, 114] else [110, 111, 116]
/-- Texts with ", " between. -/
def commas : List (List UInt8) → List UInt8
  | [] => []
  | [a] => a
  | a :: b :: l => a ++ [44, 32] ++ commas (b :: l)
def parT (b : Bool) (t : List UInt8) : List UInt8 := if b = true then [40] ++ t ++ [41] else t
def sumB (x : Ex) : Bool := x.kind == 4 || x.kind == 5
/-- The i-th part. -/
def prt (x : Ex) (i : Nat) : Ex := x.sub[i]?.getD (Ex.mk 0 ByteArray.empty ByteArray.empty 0 [])
/-- A leaf's text; that of a kind with a word. -/
noncomputable def leafT (x : Ex) : List UInt8 := if x.kind = 1 then x.rat.data.toList else if x.kind = 2 then (qn x.name).data.toList ++ [64] ++ dtxt x.date else (qn x.name).data.toList ++ [64, 110, 111, 119]
/-- What the reference writes. -/
noncomputable def rexT : Nat → Ex → List UInt8
  | 0, _ => []
  | n + 1, x =>
    if x.kind = 1 ∨ x.kind = 2 ∨ x.kind = 3 then leafT x
    else if x.kind = 4 ∨ x.kind = 5 then rexT n (prt x 0) ++ (opS x.kind).data.toList ++ parT (sumB (prt x 1)) (rexT n (prt x 1))
    else if x.kind = 6 then parT (sumB (prt x 0)) (rexT n (prt x 0)) ++ (opS x.kind).data.toList ++ parT (sumB (prt x 1) || (prt x 1).kind == 6) (rexT n (prt x 1))
    else wdL x.kind ++ ([40] ++ commas (x.sub.map (rexT n)) ++ [41])
/-- What the program writes where at least 'least' has to bind. -/
noncomputable def pexT : Nat → Ex → Int → List UInt8
  | 0, x, least => parT (decide (opO x.kind < least)) []
  | n + 1, x, least => parT (decide (opO x.kind < least))
    (if x.kind = 4 ∨ x.kind = 5 ∨ x.kind = 6 then pexT n (prt x 0) (opO x.kind) ++ (opS x.kind).data.toList ++ pexT n (prt x 1) (opN x.kind)
    else if x.kind = 1 ∨ x.kind = 2 ∨ x.kind = 3 then leafT x
    else wdL x.kind ++ ([40] ++ commas (x.sub.map fun y => pexT n y 0) ++ [41]))

theorem opO_0 (k : Int) : decide (opO k < 0) = false := by
  unfold opO; split <;> (try split) <;> (try split) <;> rfl
theorem opO_1 (x : Ex) : decide (opO x.kind < 1) = sumB x := by
  unfold opO sumB
  by_cases h4 : x.kind = 4
  · rw [if_pos h4, h4]; rfl
  by_cases h5 : x.kind = 5
  · rw [if_neg h4, if_pos h5, h5]; rfl
  rw [if_neg h4, if_neg h5, op_beq_no h4, op_beq_no h5]
  split <;> rfl
theorem opO_2 (x : Ex) : decide (opO x.kind < 2) = (sumB x || x.kind == 6) := by
  unfold opO sumB
  by_cases h4 : x.kind = 4
  · rw [if_pos h4, h4]; rfl
  by_cases h5 : x.kind = 5
  · rw [if_neg h4, if_pos h5, h5]; rfl
  by_cases h6 : x.kind = 6
  · rw [if_neg h4, if_neg h5, if_pos h6, h6]; rfl
  rw [if_neg h4, if_neg h5, if_neg h6, op_beq_no h4, op_beq_no h5, op_beq_no h6]; rfl

/-- The program writes what the reference writes, in parentheses where it binds too weakly. -/
theorem pex_rex : ∀ (n : Nat) (x : Ex) (least : Int), pexT n x least = parT (decide (opO x.kind < least)) (rexT n x) := by
  intro n
  induction n with
  | zero => intro x least; rfl
  | succ n ih =>
    intro x least
    rw [pexT, rexT]
    congr 1
    have hm : (x.sub.map fun y => pexT n y 0) = x.sub.map (rexT n) := List.map_congr_left fun y _ => by
      rw [ih, opO_0]; rfl
    by_cases h1 : x.kind = 1 ∨ x.kind = 2 ∨ x.kind = 3
    · rw [if_neg (by omega), if_pos h1, if_pos h1]
    by_cases h4 : x.kind = 4 ∨ x.kind = 5
    · have e0 : opO x.kind = 0 := by rcases h4 with h | h <;> rw [h] <;> rfl
      have e1 : opN x.kind = 1 := by rcases h4 with h | h <;> rw [h] <;> rfl
      rw [if_pos (by omega), if_neg h1, if_pos h4, ih, ih, e0, e1, opO_0, opO_1]
      rfl
    by_cases h6 : x.kind = 6
    · have e0 : opO x.kind = 1 := by rw [h6]; rfl
      have e1 : opN x.kind = 2 := by rw [h6]; rfl
      rw [if_pos (by omega), if_neg h1, if_neg h4, if_pos h6, ih, ih, e0, e1, opO_1, opO_2]
    · rw [if_neg (by omega), if_neg h1, if_neg h1, if_neg h4, if_neg h6, hm]

end Go.Proofs.YtdgmpgejemgbbaaGreatDoor

namespace Go.Proofs.YtdgmpgejemgbbaaGreatDoor
open Go.RowKit

def parS (b : Bool) (t : ByteArray) : ByteArray := if b = true then ByteArray.mk #[40] ++ t ++ ByteArray.mk #[41] else t

set_option maxHeartbeats 3000000 in
theorem rpart_of (k d : Int) (r n : ByteArray) (a : Option Addr) (l c : Nat) (t : ByteArray) (b : Bool) (w : World) (ht : t.size ≤ 3000000)
    (HE : Hid (∀ W, Below w.heap.size w W → Calls Tryz.prog 17 #[.agg #[.int .u8 k, .string r, .string n, .int .i64 d, .slice a l c]] W (fun e w' => e = .returned (.string t) ∧ Below W.heap.size W w'))) :
    Calls Tryz.prog 34 #[.agg #[.int .u8 k, .string r, .string n, .int .i64 d, .slice a l c], .bool b] w (fun e w' => e = .returned (.string (parS b t)) ∧ Below w.heap.size w w') := by
  cases b
  · go_enter Tryz.func34, Tryz.ntmps34
    go_wp2_with fail
    refine (HE.out _ (own_below w _)).mono ?_
    rintro e w' ⟨rfl, hb⟩
    have HB := Lib.hid ((own_below w (.cells #[.int .u8 k, .string r, .string n, .int .i64 d, .slice a l c] 25)).trans (hb.mono (own_below w _).size))
    clear hb
    go_wp2_with fail
    go_ret
    exact ⟨rfl, HB.out⟩
  · go_enter Tryz.func34, Tryz.ntmps34
    go_wp2_with fail
    refine (HE.out _ (own_below w _)).mono ?_
    rintro e w' ⟨rfl, hb⟩
    have HB := Lib.hid ((own_below w (.cells #[.int .u8 k, .string r, .string n, .int .i64 d, .slice a l c] 25)).trans (hb.mono (own_below w _).size))
    clear hb
    go_wp2_with fail
    go_ret
    exact ⟨rfl, HB.out⟩

end Go.Proofs.YtdgmpgejemgbbaaGreatDoor
