/-
  The program's Check of tokens, the reference's Valid: walked by cases. No condition. Tokens: Check, Valid and Text of the program and the reference, joined. No condition. Lists of tokens in memory; the reference's Great and Same walked. No condition.
-/
import Derived.Test.YtnmiiimbjojcmaaGreatDoorWa
import Derived.Test.YtnmiiimbjojcmaaGreatDoorVg
import Derived.Test.YtnmiiimbjojcmaaGreatDoorVn
import Derived.RegionTactic
import Derived.Test.YtnmiiimbjojcmaaGreatDoorVa
namespace Go.Proofs.YtnmiiimbjojcmaaGreatDoor
open Go.RowKit

def ErrB (W : World) (b : Bool) (e : Ending) (w' : World) : Prop := e = .returned (.int .i64 (if b = true then 0 else 8)) ∧ Below W.heap.size W w'
theorem own2_below (w : World) (o1 o2 : Obj) : Below w.heap.size w ((w.alloc o1).alloc o2) := (own_below _ _).trans ((own_below _ _).mono (by simp))

end Go.Proofs.YtnmiiimbjojcmaaGreatDoor

namespace Go.Proofs.YtnmiiimbjojcmaaGreatDoor
open Go.RowKit

/-- A token. -/
structure Tk where
  kind : Int
  text : ByteArray
  rat : ByteArray
  date : Int
  place : Int
instance : Inhabited Tk := ⟨⟨0, ByteArray.empty, ByteArray.empty, 0, 0⟩⟩
def aggTk (x : Tk) : Value := .agg #[.int .u8 x.kind, .string x.text, .string x.rat, .int .i64 x.date, .int .i64 x.place]
/-- Whether a text is a mark. -/
def mk1 (t : ByteArray) : Bool := match t.data.toList with
  | [c] => mkB c
  | _ => false
def vlT (s : ByteArray) : Bool := chkR s.data.toList == 0
/-- Whether a token is valid. -/
def tkB (x : Tk) : Bool :=
  if x.kind = 1 then nmB x.text.data.toList && x.rat.toList.isEmpty && (x.date == 0) && decide (0 ≤ x.place) && decide (x.place ≤ 20000)
  else if x.kind = 2 then nmB x.text.data.toList && x.rat.toList.isEmpty && (x.date == 0) && decide (0 ≤ x.place) && decide (x.place ≤ 20000)
  else if x.kind = 3 then x.text.toList.isEmpty && vlT x.rat && (x.date == 0) && decide (0 ≤ x.place) && decide (x.place ≤ 20000)
  else if x.kind = 4 then x.text.toList.isEmpty && x.rat.toList.isEmpty && decide (0 ≤ x.date) && decide (x.date ≤ 99999) && decide (0 ≤ x.place) && decide (x.place ≤ 20000)
  else if x.kind = 5 then mk1 x.text && x.rat.toList.isEmpty && (x.date == 0) && decide (0 ≤ x.place) && decide (x.place ≤ 20000)
  else false
theorem class_mark (c : UInt8) : (classN c == 5) = decide (c ∈ marksL) := by
  rw [Bool.eq_iff_iff, beq_iff_eq, decide_eq_true_eq]
  unfold classN letB
  simp only [decide_eq_true_eq, marks_nat]
  repeat' split
  all_goals omega
theorem one_byte {t : ByteArray} (h : t.size = 1) : t.data.toList = [t[0]'(by omega)] := by
  have h0 : 0 < t.size := by omega
  have h1 := data_head t h0
  have h2 : t.data.toList.length = 1 := by rw [data_len]; exact h
  match hl : t.data.toList, h2 with
  | [c], _ => rw [hl] at h1; simp at h1; rw [h1]
theorem mk1_one {t : ByteArray} (h : t.size = 1) : mk1 t = mkB (t[0]'(by omega)) := by unfold mk1; rw [one_byte h]
theorem mk1_not {t : ByteArray} (h : t.size ≠ 1) : mk1 t = false := by
  unfold mk1
  have h2 : t.data.toList.length ≠ 1 := by rw [data_len]; exact h
  match hl : t.data.toList, h2 with
  | [], _ => rfl
  | [c], h2 => simp at h2
  | a :: b :: l, _ => rfl
theorem mk_parts {t : ByteArray} (h : t.size = 1) : ((classN (t[0]'(by omega)) == 5) || (t.toList == [45])) = mkB (t[0]'(by omega)) := by
  rw [class_mark, toList_data, one_byte h]
  unfold mkB
  congr 1
  rw [Bool.eq_iff_iff]
  simp only [beq_iff_eq, List.cons.injEq, and_true, decide_eq_true_eq, ← UInt8.toNat_inj]
  rfl
theorem beq_no {K n : Int} (h : K ≠ n) : (K == n) = false := by simpa using h
theorem size_no {t : ByteArray} (h : t.size ≠ 1) : ((t.size : Int) == 1) = false := by simp; omega

/-- The text of a day. -/
noncomputable def dtxt (n : Int) : List UInt8 := dateB (date_exists n.toNat).choose (date_exists n.toNat).choose_spec.choose (date_exists n.toNat).choose_spec.choose_spec.choose
/-- A text and an error are handed back. -/
def TPost (w : World) (s : ByteArray) (n : Int) (e : Ending) (w' : World) : Prop := e = .returned (.tuple #[.string s, .int .i64 n]) ∧ Below w.heap.size w w'
/-- The text of a token. -/
noncomputable def txT (x : Tk) : ByteArray :=
  if x.kind = 2 then ⟨#[34]⟩ ++ x.text ++ ⟨#[34]⟩ else if x.kind = 3 then x.rat else if x.kind = 4 then ⟨(dtxt x.date).toArray⟩ else x.text
theorem tkB_kind {x : Tk} (h : tkB x = true) : x.kind = 1 ∨ x.kind = 2 ∨ x.kind = 3 ∨ x.kind = 4 ∨ x.kind = 5 := by
  unfold tkB at h
  repeat' split at h
  all_goals first | omega | cases h
theorem tkB_date {x : Tk} (h : tkB x = true) (h4 : x.kind = 4) : 0 ≤ x.date ∧ x.date ≤ 99999 := by
  unfold tkB at h
  rw [h4] at h
  simp at h
  omega
end Go.Proofs.YtnmiiimbjojcmaaGreatDoor

namespace Go.Proofs.YtnmiiimbjojcmaaGreatDoor
open Go.RowKit

def encTk (x : Tk) : List Value := [.int .u8 x.kind, .string x.text, .string x.rat, .int .i64 x.date, .int .i64 x.place]
/-- A token as it lies in memory. -/
def TkAt (w : World) (g o : Nat) (x : Tk) : Prop := w.cell? ⟨g, o, none⟩ = some (.int .u8 x.kind) ∧ w.cell? ⟨g, o + 1, none⟩ = some (.string x.text) ∧ w.cell? ⟨g, o + 2, none⟩ = some (.string x.rat) ∧ w.cell? ⟨g, o + 3, none⟩ = some (.int .i64 x.date) ∧ w.cell? ⟨g, o + 4, none⟩ = some (.int .i64 x.place)
def Tks (w : World) (g off : Nat) (l : List Tk) : Prop := ∀ i, i < l.length → TkAt w g (off + i * 5) (l[i]?.getD default)
theorem tks_below {w w' : World} {g o : Nat} {l : List Tk} (h : Tks w g o l) (hb : Below w.heap.size w w') (hg : g < w.heap.size) : Tks w' g o l := by
  obtain ⟨hc, _⟩ := bcell hb
  intro i hi
  obtain ⟨a0, a1, a2, a3, a4⟩ := h i hi
  exact ⟨(hc _ _ hg).trans a0, (hc _ _ hg).trans a1, (hc _ _ hg).trans a2, (hc _ _ hg).trans a3, (hc _ _ hg).trans a4⟩
theorem TkAt.bel {w : World} {g o : Nat} {x : Tk} (h : TkAt w g o x) (p : BelOf w) : TkAt p.u g o x := ⟨cell_bel h.1 p, cell_bel h.2.1 p, cell_bel h.2.2.1 p, cell_bel h.2.2.2.1 p, cell_bel h.2.2.2.2 p⟩
/-- The cells of a list of tokens. -/
def tks (l : List Tk) : List Value := l.flatMap encTk
theorem encTk_length (x : Tk) : (encTk x).length = 5 := rfl
theorem tks_length (l : List Tk) : (tks l).length = l.length * 5 := by
  induction l with
  | nil => rfl
  | cons x l ih => show (encTk x ++ tks l).length = _; rw [List.length_append, ih, encTk_length, List.length_cons]; omega
theorem tks_get (l : List Tk) (i j : Nat) (hi : i < l.length) (hj : j < 5) : (tks l)[i * 5 + j]? = (encTk (l[i]?.getD default))[j]? := by
  induction l generalizing i with
  | nil => simp at hi
  | cons x l ih =>
    show (encTk x ++ tks l)[i * 5 + j]? = _
    cases i with
    | zero => rw [List.getElem?_append_left (by rw [encTk_length]; omega)]; simp
    | succ i =>
      rw [List.getElem?_append_right (by rw [encTk_length]; omega), encTk_length, show (i + 1) * 5 + j - 5 = i * 5 + j by omega, ih i (by simpa using hi)]
      simp
theorem tks_of_row {w : World} {g : Nat} {t : TypeId} {l : List Tk} (h : RowAt w g t (tks l)) : Tks w g 0 l := by
  intro i hi
  have hc : ∀ j, j < 5 → w.cell? ⟨g, 0 + i * 5 + j, none⟩ = (encTk (l[i]?.getD default))[j]? := fun j hj => by
    rw [Nat.zero_add, h.cell (by rw [tks_length]; omega), tks_get l i j hi hj]
  exact ⟨hc 0 (by omega), hc 1 (by omega), hc 2 (by omega), hc 3 (by omega), hc 4 (by omega)⟩
theorem tks_one (l : List Tk) : ∀ u ∈ tks l, u.oneCell' = true := by
  intro u hu
  simp only [tks, List.mem_flatMap, encTk] at hu
  obtain ⟨x, _, hx⟩ := hu
  simp only [List.mem_cons, List.not_mem_nil, or_false] at hx
  rcases hx with rfl | rfl | rfl | rfl | rfl <;> rfl
/-- Cell by cell, from a list of tokens that lies anywhere. -/
theorem tks_cell {w : World} {g o : Nat} {l : List Tk} (h : Tks w g o l) (j : Nat) (u : Value) (hj : (tks l)[j]? = some u) : w.cell? ⟨g, o + j, none⟩ = some u := by
  have hl := (List.getElem?_eq_some_iff.1 hj).1
  rw [tks_length] at hl
  have e : j = j / 5 * 5 + j % 5 := by omega
  have hi : j / 5 < l.length := by omega
  rw [e, tks_get l (j / 5) (j % 5) hi (by omega)] at hj
  obtain ⟨a0, a1, a2, a3, a4⟩ := h (j / 5) hi
  have hm : j % 5 < 5 := by omega
  rw [e, ← Nat.add_assoc]
  generalize j % 5 = m at *
  generalize l[j / 5]?.getD default = x at *
  match m, hm with
  | 0, _ => simp [encTk] at hj; rw [← hj]; exact a0
  | 1, _ => simp [encTk] at hj; rw [← hj]; exact a1
  | 2, _ => simp [encTk] at hj; rw [← hj]; exact a2
  | 3, _ => simp [encTk] at hj; rw [← hj]; exact a3
  | 4, _ => simp [encTk] at hj; rw [← hj]; exact a4

/-- Whether a token is long. -/
def bigTk (x : Tk) : Prop := 200 < x.text.size ∨ 2500 < x.rat.size
def GtPost (l : List Tk) (n : Nat) (w : World) (e : Ending) (w' : World) : Prop := w = w' ∧ (e = .returned (.bool true) ∨ (e = .returned (.bool false) ∧ ∀ i, i < n → ¬ bigTk (l[i]?.getD default)))
/-- The loop of Great. -/
def GtR (l : List Tk) (n : Nat) (v : Value) : Prop := ∃ k : Nat, k ≤ n ∧ v = .int .i64 (k : Int) ∧ ∀ i, i < k → ¬ bigTk (l[i]?.getD default)

set_option maxHeartbeats 2000000 in
set_option maxRecDepth 100000 in
theorem same_tk (g1 o1 g2 o2 c1 c2 n : Nat) (l : List Tk) (w : World) (hl : l.length = n) (hbig : n ≤ 1000000) (hg1 : g1 < w.heap.size) (hg2 : g2 < w.heap.size) (h1 : Tks w g1 o1 l) (h2 : Tks w g2 o2 l) :
    Calls Tryz.prog 9 #[.slice (some ⟨g1, o1, none⟩) n c1, .slice (some ⟨g2, o2, none⟩) n c2, .bool true] w (BelB w true) := by
  have HL := Lib.hid hl
  have H1 := Lib.hid h1
  have H2 := Lib.hid h2
  clear hl h1 h2
  go_enter Tryz.func9, Tryz.ntmps9
  go_wp2_with fail
  go_loopw [7] (fun i wr => ∃ k : Nat, k ≤ n ∧ i = .int .i64 (k : Int) ∧ Below w.heap.size w wr) (fun i _ => n - (intOf i).toNat)
  case atStart => exact ⟨0, Nat.zero_le _, rfl, Below.refl _ _⟩
  case round =>
    obtain ⟨w1, rfl⟩ : ∃ w1 : World, w1 = wr := ⟨_, rfl⟩
    obtain ⟨k, hk, rfl, hb⟩ := hrel
    have HB := Lib.hid hb
    have hgs1 : g1 < w1.heap.size := Nat.lt_of_lt_of_le hg1 hb.size
    have hgs2 : g2 < w1.heap.size := Nat.lt_of_lt_of_le hg2 hb.size
    by_cases hlt : k < n
    · obtain ⟨x, hx⟩ : ∃ x, x = l[k]?.getD default := ⟨_, rfl⟩
      have a := tks_below H1.out hb hg1 k (by have := HL.out; omega)
      have b := tks_below H2.out hb hg2 k (by have := HL.out; omega)
      rw [← hx] at a b
      obtain ⟨a0, a1, a2, a3, a4⟩ := a
      obtain ⟨b0, b1, b2, b3, b4⟩ := b
      clear hx hb
      have HB2 := Lib.hid (HB.out.alloc HB.out.size (.cells #[.int .u8 x.kind, .string x.text, .string x.rat, .int .i64 x.date, .int .i64 x.place] 40))
      go_wp2_with fail
      go_quiet (fail)
      go_wp2_with fail
      go_roundw
      case rel => exact ⟨k + 1, by omega, by go_num, below_drewN HB2.out _⟩
      case measure => simp [intOf]; omega
    · clear hb
      go_wp2_with fail
      go_ret
      exact ⟨rfl, HB.out⟩

set_option maxHeartbeats 1000000 in
set_option maxRecDepth 100000 in
theorem same_zero (a1 a2 : Option Addr) (c1 c2 : Nat) (w : World) :
    Calls Tryz.prog 9 #[.slice a1 0 c1, .slice a2 0 c2, .bool true] w (BelB w true) := by
  go_enter Tryz.func9, Tryz.ntmps9
  go_wp2_with fail
  refine wp_loop_rounds 1 ?_
  rw [rounds_succ]
  go_wp2_with fail
  go_ret
  exact ⟨rfl, Below.refl _ _⟩

end Go.Proofs.YtnmiiimbjojcmaaGreatDoor
