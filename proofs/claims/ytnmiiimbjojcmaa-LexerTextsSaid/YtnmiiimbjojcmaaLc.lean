/-
  Tokens: Check, Valid and Text of the program and the reference, joined. No condition.
-/
import Derived.Test.YtnmiiimbjojcmaaLb
import Derived.Test.YtnmiiimbjojcmaaDc
namespace Go.Proofs.Ytnmiiimbjojcmaa
open Go.RowKit

/-- A token. -/
structure Tk where
  kind : Int
  text : ByteArray
  rat : ByteArray
  date : Int
  place : Int
instance : Inhabited Tk := ⟨⟨0, ByteArray.empty, ByteArray.empty, 0, 0⟩⟩
def aggTk (x : Tk) : Value := .agg #[.int .u8 x.kind, .string x.text, .string x.rat, .int .i64 x.date, .int .i64 x.place]
/-- Whether a text is a mark. -/
def mk1 (t : ByteArray) : Bool := match t.data.toList with
  | [c] => mkB c
  | _ => false
def vlT (s : ByteArray) : Bool := chkR s.data.toList == 0
/-- Whether a token is valid. -/
def tkB (x : Tk) : Bool :=
  if x.kind = 1 then nmB x.text.data.toList && x.rat.toList.isEmpty && (x.date == 0) && decide (0 ≤ x.place) && decide (x.place ≤ 20000)
  else if x.kind = 2 then nmB x.text.data.toList && x.rat.toList.isEmpty && (x.date == 0) && decide (0 ≤ x.place) && decide (x.place ≤ 20000)
  else if x.kind = 3 then x.text.toList.isEmpty && vlT x.rat && (x.date == 0) && decide (0 ≤ x.place) && decide (x.place ≤ 20000)
  else if x.kind = 4 then x.text.toList.isEmpty && x.rat.toList.isEmpty && decide (0 ≤ x.date) && decide (x.date ≤ 99999) && decide (0 ≤ x.place) && decide (x.place ≤ 20000)
  else if x.kind = 5 then mk1 x.text && x.rat.toList.isEmpty && (x.date == 0) && decide (0 ≤ x.place) && decide (x.place ≤ 20000)
  else false
theorem class_mark (c : UInt8) : (classN c == 5) = decide (c ∈ marksL) := by
  rw [Bool.eq_iff_iff, beq_iff_eq, decide_eq_true_eq]
  unfold classN letB
  simp only [decide_eq_true_eq, marks_nat]
  repeat' split
  all_goals omega
theorem one_byte {t : ByteArray} (h : t.size = 1) : t.data.toList = [t[0]'(by omega)] := by
  have h0 : 0 < t.size := by omega
  have h1 := data_head t h0
  have h2 : t.data.toList.length = 1 := by rw [data_len]; exact h
  match hl : t.data.toList, h2 with
  | [c], _ => rw [hl] at h1; simp at h1; rw [h1]
theorem mk1_one {t : ByteArray} (h : t.size = 1) : mk1 t = mkB (t[0]'(by omega)) := by unfold mk1; rw [one_byte h]
theorem mk1_not {t : ByteArray} (h : t.size ≠ 1) : mk1 t = false := by
  unfold mk1
  have h2 : t.data.toList.length ≠ 1 := by rw [data_len]; exact h
  match hl : t.data.toList, h2 with
  | [], _ => rfl
  | [c], h2 => simp at h2
  | a :: b :: l, _ => rfl
theorem mk_parts {t : ByteArray} (h : t.size = 1) : ((classN (t[0]'(by omega)) == 5) || (t.toList == [45])) = mkB (t[0]'(by omega)) := by
  rw [class_mark, toList_data, one_byte h]
  unfold mkB
  congr 1
  rw [Bool.eq_iff_iff]
  simp only [beq_iff_eq, List.cons.injEq, and_true, decide_eq_true_eq, ← UInt8.toNat_inj]
  rfl
theorem beq_no {K n : Int} (h : K ≠ n) : (K == n) = false := by simpa using h
theorem size_no {t : ByteArray} (h : t.size ≠ 1) : ((t.size : Int) == 1) = false := by simp; omega

theorem check_tk (x : Tk) (w : World) (hr : x.rat.size ≤ 100000) : Calls Try.prog 7 #[aggTk x] w (ErrB w (tkB x)) := by
  obtain ⟨K, t1, r1, d1, z1⟩ := x
  unfold tkB aggTk
  dsimp only at hr ⊢
  have HN : Hid (∀ W, Calls Try.prog 14 #[.string t1] W (RetB W (nmB t1.data.toList))) := fun W => name_any t1 W
  have HV : Hid (∀ W, Calls Try.prog 16 #[.string r1] W (ErrPost W (chkR r1.data.toList))) := fun W => qrat_any r1 W (by omega)
  by_cases k1 : K = 1
  · subst k1; exact check_k1 t1 r1 d1 z1 w _ _ _ _ _ rfl rfl rfl rfl HN
  by_cases k2 : K = 2
  · subst k2; exact check_k2 t1 r1 d1 z1 w _ _ _ _ _ rfl rfl rfl rfl HN
  by_cases k3 : K = 3
  · subst k3; exact check_k3 t1 r1 d1 z1 w _ _ _ _ _ rfl rfl rfl rfl _ HV rfl
  by_cases k4 : K = 4
  · subst k4; exact check_k4 t1 r1 d1 z1 w _ _ _ _ _ _ rfl rfl rfl rfl rfl rfl
  by_cases k5 : K = 5
  · subst k5
    by_cases hs : t1.size = 1
    · have := check_k5 t1 r1 d1 z1 w _ _ _ _ _ _ rfl rfl rfl rfl hs _ (fun W => class_any (t1[0]'(by omega)) W) rfl rfl
      rw [mk_parts hs, ← mk1_one hs] at this
      exact this
    · have := check_k5n t1 r1 d1 z1 w _ _ rfl rfl (size_no hs)
      rw [mk1_not hs]
      exact this
  rw [if_neg k1, if_neg k2, if_neg k3, if_neg k4, if_neg k5]
  exact check_kx K (beq_no k1) (beq_no k2) (beq_no k3) (beq_no k4) (beq_no k5) t1 r1 d1 z1 w _ _ rfl rfl

theorem valid_tk (x : Tk) (w : World) (hr : x.rat.size ≤ 100000) : Calls Try.prog 8 #[aggTk x] w (BelB w (tkB x)) := by
  obtain ⟨K, t1, r1, d1, z1⟩ := x
  unfold tkB aggTk
  dsimp only at hr ⊢
  have HN : Hid (∀ W, Calls Try.prog 17 #[.string t1] W (RetB W (nmB t1.data.toList))) := fun W => rname_any t1 W
  have HV : Hid (∀ W, Calls Try.prog 19 #[.string r1] W (ErrPost W (chkR r1.data.toList))) := fun W => rrat_any r1 W (by omega)
  by_cases k1 : K = 1
  · subst k1; exact valid_k1 t1 r1 d1 z1 w _ _ _ _ _ rfl rfl rfl rfl HN
  by_cases k2 : K = 2
  · subst k2; exact valid_k2 t1 r1 d1 z1 w _ _ _ _ _ rfl rfl rfl rfl HN
  by_cases k3 : K = 3
  · subst k3; exact valid_k3 t1 r1 d1 z1 w _ _ _ _ _ rfl rfl rfl rfl _ rfl _ HV rfl
  by_cases k4 : K = 4
  · subst k4; exact valid_k4 t1 r1 d1 z1 w _ _ _ _ _ _ rfl rfl rfl rfl rfl rfl _ rfl
  by_cases k5 : K = 5
  · subst k5
    by_cases hs : t1.size = 1
    · have := valid_k5 t1 r1 d1 z1 w _ _ _ _ _ rfl rfl rfl rfl hs (fun W => mark_any (t1[0]'(by omega)) W)
      rw [← mk1_one hs] at this
      exact this
    · have := valid_k5n t1 r1 d1 z1 w _ _ rfl rfl (size_no hs)
      rw [mk1_not hs]
      exact this
  rw [if_neg k1, if_neg k2, if_neg k3, if_neg k4, if_neg k5]
  exact valid_kx K (beq_no k1) (beq_no k2) (beq_no k3) (beq_no k4) (beq_no k5) t1 r1 d1 z1 w _ _ rfl rfl

/-- The text of a day. -/
noncomputable def dtxt (n : Int) : List UInt8 := dateB (date_exists n.toNat).choose (date_exists n.toNat).choose_spec.choose (date_exists n.toNat).choose_spec.choose_spec.choose
/-- A text and an error are handed back. -/
def TPost (w : World) (s : ByteArray) (n : Int) (e : Ending) (w' : World) : Prop := e = .returned (.tuple #[.string s, .int .i64 n]) ∧ Below w.heap.size w w'
theorem dtext_is {n : Int} (h0 : 0 ≤ n) (h1 : n ≤ 99999) (W : World) : Calls Try.prog 12 #[.int .i64 n] W (TPost W ⟨(dtxt n).toArray⟩ 0) := by
  have hd := (date_exists n.toNat).choose_spec.choose_spec.choose_spec
  have := dtext_ok n.toNat _ _ _ W (by omega) hd
  rwa [show ((n.toNat : Nat) : Int) = n by omega] at this
theorem rdtext_is {n : Int} (h0 : 0 ≤ n) (h1 : n ≤ 99999) (W : World) : Calls Try.prog 13 #[.int .i64 n] W (TPost W ⟨(dtxt n).toArray⟩ 0) := by
  have hd := (date_exists n.toNat).choose_spec.choose_spec.choose_spec
  have := rdtext_ok n.toNat _ _ _ W (by omega) hd
  rwa [show ((n.toNat : Nat) : Int) = n by omega] at this

set_option maxHeartbeats 2000000 in
set_option maxRecDepth 100000 in
theorem ptext_bad (K : Int) (t1 r1 : ByteArray) (d1 z1 : Int) (w : World) (HC : Hid (∀ W, Calls Try.prog 7 #[.agg #[.int .u8 K, .string t1, .string r1, .int .i64 d1, .int .i64 z1]] W fun e w' => e = .returned (.int .i64 8) ∧ Below W.heap.size W w')) :
    Calls Try.prog 5 #[.agg #[.int .u8 K, .string t1, .string r1, .int .i64 d1, .int .i64 z1]] w (TPost w ⟨#[]⟩ 8) := by
  go_enter Try.func5, Try.ntmps5
  go_wp2_with fail
  refine (HC.out _).mono ?_
  rintro e w2 ⟨rfl, b2⟩
  have B : Hid (Below w.heap.size w w2) := (own_below _ _).trans (b2.mono (by simp))
  clear b2
  go_wp2
  go_ret2
  exact ⟨rfl, B.out⟩

set_option maxHeartbeats 2000000 in
set_option maxRecDepth 100000 in
theorem ptext_1 (t1 r1 : ByteArray) (d1 z1 : Int) (w : World) (HC : Hid (∀ W, Calls Try.prog 7 #[.agg #[.int .u8 1, .string t1, .string r1, .int .i64 d1, .int .i64 z1]] W fun e w' => e = .returned (.int .i64 0) ∧ Below W.heap.size W w')) :
    Calls Try.prog 5 #[.agg #[.int .u8 1, .string t1, .string r1, .int .i64 d1, .int .i64 z1]] w (TPost w t1 0) := by
  go_enter Try.func5, Try.ntmps5
  go_wp2_with fail
  refine (HC.out _).mono ?_
  rintro e w2 ⟨rfl, b2⟩
  have B : Hid (Below w.heap.size w w2) := (own_below _ _).trans (b2.mono (by simp))
  have a0 : w2.cell? ⟨w.heap.size, 0, none⟩ = some (.int .u8 1) := by rw [(bcell b2).1 _ _ (by simp <;> omega)]; simp [go_sem]
  have a1 : w2.cell? ⟨w.heap.size, 1, none⟩ = some (.string t1) := by rw [(bcell b2).1 _ _ (by simp <;> omega)]; simp [go_sem]
  have a2 : w2.cell? ⟨w.heap.size, 2, none⟩ = some (.string r1) := by rw [(bcell b2).1 _ _ (by simp <;> omega)]; simp [go_sem]
  have a3 : w2.cell? ⟨w.heap.size, 3, none⟩ = some (.int .i64 d1) := by rw [(bcell b2).1 _ _ (by simp <;> omega)]; simp [go_sem]
  have a4 : w2.cell? ⟨w.heap.size, 4, none⟩ = some (.int .i64 z1) := by rw [(bcell b2).1 _ _ (by simp <;> omega)]; simp [go_sem]
  clear b2
  go_wp2
  go_ret2
  exact ⟨rfl, B.out⟩

set_option maxHeartbeats 2000000 in
set_option maxRecDepth 100000 in
theorem ptext_5 (t1 r1 : ByteArray) (d1 z1 : Int) (w : World) (HC : Hid (∀ W, Calls Try.prog 7 #[.agg #[.int .u8 5, .string t1, .string r1, .int .i64 d1, .int .i64 z1]] W fun e w' => e = .returned (.int .i64 0) ∧ Below W.heap.size W w')) :
    Calls Try.prog 5 #[.agg #[.int .u8 5, .string t1, .string r1, .int .i64 d1, .int .i64 z1]] w (TPost w t1 0) := by
  go_enter Try.func5, Try.ntmps5
  go_wp2_with fail
  refine (HC.out _).mono ?_
  rintro e w2 ⟨rfl, b2⟩
  have B : Hid (Below w.heap.size w w2) := (own_below _ _).trans (b2.mono (by simp))
  have a0 : w2.cell? ⟨w.heap.size, 0, none⟩ = some (.int .u8 5) := by rw [(bcell b2).1 _ _ (by simp <;> omega)]; simp [go_sem]
  have a1 : w2.cell? ⟨w.heap.size, 1, none⟩ = some (.string t1) := by rw [(bcell b2).1 _ _ (by simp <;> omega)]; simp [go_sem]
  have a2 : w2.cell? ⟨w.heap.size, 2, none⟩ = some (.string r1) := by rw [(bcell b2).1 _ _ (by simp <;> omega)]; simp [go_sem]
  have a3 : w2.cell? ⟨w.heap.size, 3, none⟩ = some (.int .i64 d1) := by rw [(bcell b2).1 _ _ (by simp <;> omega)]; simp [go_sem]
  have a4 : w2.cell? ⟨w.heap.size, 4, none⟩ = some (.int .i64 z1) := by rw [(bcell b2).1 _ _ (by simp <;> omega)]; simp [go_sem]
  clear b2
  go_wp2
  go_ret2
  exact ⟨rfl, B.out⟩

set_option maxHeartbeats 2000000 in
set_option maxRecDepth 100000 in
theorem ptext_3 (t1 r1 : ByteArray) (d1 z1 : Int) (w : World) (HC : Hid (∀ W, Calls Try.prog 7 #[.agg #[.int .u8 3, .string t1, .string r1, .int .i64 d1, .int .i64 z1]] W fun e w' => e = .returned (.int .i64 0) ∧ Below W.heap.size W w')) :
    Calls Try.prog 5 #[.agg #[.int .u8 3, .string t1, .string r1, .int .i64 d1, .int .i64 z1]] w (TPost w r1 0) := by
  go_enter Try.func5, Try.ntmps5
  go_wp2_with fail
  refine (HC.out _).mono ?_
  rintro e w2 ⟨rfl, b2⟩
  have B : Hid (Below w.heap.size w w2) := (own_below _ _).trans (b2.mono (by simp))
  have a0 : w2.cell? ⟨w.heap.size, 0, none⟩ = some (.int .u8 3) := by rw [(bcell b2).1 _ _ (by simp <;> omega)]; simp [go_sem]
  have a1 : w2.cell? ⟨w.heap.size, 1, none⟩ = some (.string t1) := by rw [(bcell b2).1 _ _ (by simp <;> omega)]; simp [go_sem]
  have a2 : w2.cell? ⟨w.heap.size, 2, none⟩ = some (.string r1) := by rw [(bcell b2).1 _ _ (by simp <;> omega)]; simp [go_sem]
  have a3 : w2.cell? ⟨w.heap.size, 3, none⟩ = some (.int .i64 d1) := by rw [(bcell b2).1 _ _ (by simp <;> omega)]; simp [go_sem]
  have a4 : w2.cell? ⟨w.heap.size, 4, none⟩ = some (.int .i64 z1) := by rw [(bcell b2).1 _ _ (by simp <;> omega)]; simp [go_sem]
  clear b2
  go_wp2
  go_ret2
  exact ⟨rfl, B.out⟩

set_option maxHeartbeats 2000000 in
set_option maxRecDepth 100000 in
theorem ptext_2 (t1 r1 : ByteArray) (d1 z1 : Int) (w : World) (hs : t1.size ≤ 1000) (HC : Hid (∀ W, Calls Try.prog 7 #[.agg #[.int .u8 2, .string t1, .string r1, .int .i64 d1, .int .i64 z1]] W fun e w' => e = .returned (.int .i64 0) ∧ Below W.heap.size W w')) :
    Calls Try.prog 5 #[.agg #[.int .u8 2, .string t1, .string r1, .int .i64 d1, .int .i64 z1]] w (TPost w (⟨#[34]⟩ ++ t1 ++ ⟨#[34]⟩) 0) := by
  go_enter Try.func5, Try.ntmps5
  go_wp2_with fail
  refine (HC.out _).mono ?_
  rintro e w2 ⟨rfl, b2⟩
  have B : Hid (Below w.heap.size w w2) := (own_below _ _).trans (b2.mono (by simp))
  have a0 : w2.cell? ⟨w.heap.size, 0, none⟩ = some (.int .u8 2) := by rw [(bcell b2).1 _ _ (by simp <;> omega)]; simp [go_sem]
  have a1 : w2.cell? ⟨w.heap.size, 1, none⟩ = some (.string t1) := by rw [(bcell b2).1 _ _ (by simp <;> omega)]; simp [go_sem]
  have a2 : w2.cell? ⟨w.heap.size, 2, none⟩ = some (.string r1) := by rw [(bcell b2).1 _ _ (by simp <;> omega)]; simp [go_sem]
  have a3 : w2.cell? ⟨w.heap.size, 3, none⟩ = some (.int .i64 d1) := by rw [(bcell b2).1 _ _ (by simp <;> omega)]; simp [go_sem]
  have a4 : w2.cell? ⟨w.heap.size, 4, none⟩ = some (.int .i64 z1) := by rw [(bcell b2).1 _ _ (by simp <;> omega)]; simp [go_sem]
  clear b2
  go_wp2
  go_ret2
  exact ⟨rfl, B.out⟩

set_option maxHeartbeats 2000000 in
set_option maxRecDepth 100000 in
theorem ptext_4 (t1 r1 : ByteArray) (d1 z1 : Int) (w : World) (HC : Hid (∀ W, Calls Try.prog 7 #[.agg #[.int .u8 4, .string t1, .string r1, .int .i64 d1, .int .i64 z1]] W fun e w' => e = .returned (.int .i64 0) ∧ Below W.heap.size W w')) (s : ByteArray) (HD : Hid (∀ W, Calls Try.prog 12 #[.int .i64 d1] W (TPost W s 0))) :
    Calls Try.prog 5 #[.agg #[.int .u8 4, .string t1, .string r1, .int .i64 d1, .int .i64 z1]] w (TPost w s 0) := by
  go_enter Try.func5, Try.ntmps5
  go_wp2_with fail
  refine (HC.out _).mono ?_
  rintro e w2 ⟨rfl, b2⟩
  have B : Hid (Below w.heap.size w w2) := (own_below _ _).trans (b2.mono (by simp))
  have a0 : w2.cell? ⟨w.heap.size, 0, none⟩ = some (.int .u8 4) := by rw [(bcell b2).1 _ _ (by simp <;> omega)]; simp [go_sem]
  have a1 : w2.cell? ⟨w.heap.size, 1, none⟩ = some (.string t1) := by rw [(bcell b2).1 _ _ (by simp <;> omega)]; simp [go_sem]
  have a2 : w2.cell? ⟨w.heap.size, 2, none⟩ = some (.string r1) := by rw [(bcell b2).1 _ _ (by simp <;> omega)]; simp [go_sem]
  have a3 : w2.cell? ⟨w.heap.size, 3, none⟩ = some (.int .i64 d1) := by rw [(bcell b2).1 _ _ (by simp <;> omega)]; simp [go_sem]
  have a4 : w2.cell? ⟨w.heap.size, 4, none⟩ = some (.int .i64 z1) := by rw [(bcell b2).1 _ _ (by simp <;> omega)]; simp [go_sem]
  clear b2
  go_wp2_with fail
  refine (HD.out _).mono ?_
  rintro e w3 ⟨rfl, b3⟩
  have B3 := Lib.hid (B.out.trans (b3.mono B.out.size))
  clear b3
  go_wp2
  go_ret2
  exact ⟨rfl, B3.out⟩

set_option maxHeartbeats 2000000 in
set_option maxRecDepth 100000 in
theorem rtext_bad (K : Int) (t1 r1 : ByteArray) (d1 z1 : Int) (w : World) (HC : Hid (∀ W, Calls Try.prog 8 #[.agg #[.int .u8 K, .string t1, .string r1, .int .i64 d1, .int .i64 z1]] W fun e w' => e = .returned (.bool false) ∧ Below W.heap.size W w')) :
    Calls Try.prog 6 #[.agg #[.int .u8 K, .string t1, .string r1, .int .i64 d1, .int .i64 z1]] w (TPost w ⟨#[]⟩ 8) := by
  go_enter Try.func6, Try.ntmps6
  go_wp2_with fail
  refine (HC.out _).mono ?_
  rintro e w2 ⟨rfl, b2⟩
  have B : Hid (Below w.heap.size w w2) := (own_below _ _).trans (b2.mono (by simp))
  clear b2
  go_wp2
  go_ret2
  exact ⟨rfl, B.out⟩

set_option maxHeartbeats 2000000 in
set_option maxRecDepth 100000 in
theorem rtext_1 (t1 r1 : ByteArray) (d1 z1 : Int) (w : World) (HC : Hid (∀ W, Calls Try.prog 8 #[.agg #[.int .u8 1, .string t1, .string r1, .int .i64 d1, .int .i64 z1]] W fun e w' => e = .returned (.bool true) ∧ Below W.heap.size W w')) :
    Calls Try.prog 6 #[.agg #[.int .u8 1, .string t1, .string r1, .int .i64 d1, .int .i64 z1]] w (TPost w t1 0) := by
  go_enter Try.func6, Try.ntmps6
  go_wp2_with fail
  refine (HC.out _).mono ?_
  rintro e w2 ⟨rfl, b2⟩
  have B : Hid (Below w.heap.size w w2) := (own_below _ _).trans (b2.mono (by simp))
  have a0 : w2.cell? ⟨w.heap.size, 0, none⟩ = some (.int .u8 1) := by rw [(bcell b2).1 _ _ (by simp <;> omega)]; simp [go_sem]
  have a1 : w2.cell? ⟨w.heap.size, 1, none⟩ = some (.string t1) := by rw [(bcell b2).1 _ _ (by simp <;> omega)]; simp [go_sem]
  have a2 : w2.cell? ⟨w.heap.size, 2, none⟩ = some (.string r1) := by rw [(bcell b2).1 _ _ (by simp <;> omega)]; simp [go_sem]
  have a3 : w2.cell? ⟨w.heap.size, 3, none⟩ = some (.int .i64 d1) := by rw [(bcell b2).1 _ _ (by simp <;> omega)]; simp [go_sem]
  have a4 : w2.cell? ⟨w.heap.size, 4, none⟩ = some (.int .i64 z1) := by rw [(bcell b2).1 _ _ (by simp <;> omega)]; simp [go_sem]
  clear b2
  go_wp2
  go_ret2
  exact ⟨rfl, B.out⟩

set_option maxHeartbeats 2000000 in
set_option maxRecDepth 100000 in
theorem rtext_5 (t1 r1 : ByteArray) (d1 z1 : Int) (w : World) (HC : Hid (∀ W, Calls Try.prog 8 #[.agg #[.int .u8 5, .string t1, .string r1, .int .i64 d1, .int .i64 z1]] W fun e w' => e = .returned (.bool true) ∧ Below W.heap.size W w')) :
    Calls Try.prog 6 #[.agg #[.int .u8 5, .string t1, .string r1, .int .i64 d1, .int .i64 z1]] w (TPost w t1 0) := by
  go_enter Try.func6, Try.ntmps6
  go_wp2_with fail
  refine (HC.out _).mono ?_
  rintro e w2 ⟨rfl, b2⟩
  have B : Hid (Below w.heap.size w w2) := (own_below _ _).trans (b2.mono (by simp))
  have a0 : w2.cell? ⟨w.heap.size, 0, none⟩ = some (.int .u8 5) := by rw [(bcell b2).1 _ _ (by simp <;> omega)]; simp [go_sem]
  have a1 : w2.cell? ⟨w.heap.size, 1, none⟩ = some (.string t1) := by rw [(bcell b2).1 _ _ (by simp <;> omega)]; simp [go_sem]
  have a2 : w2.cell? ⟨w.heap.size, 2, none⟩ = some (.string r1) := by rw [(bcell b2).1 _ _ (by simp <;> omega)]; simp [go_sem]
  have a3 : w2.cell? ⟨w.heap.size, 3, none⟩ = some (.int .i64 d1) := by rw [(bcell b2).1 _ _ (by simp <;> omega)]; simp [go_sem]
  have a4 : w2.cell? ⟨w.heap.size, 4, none⟩ = some (.int .i64 z1) := by rw [(bcell b2).1 _ _ (by simp <;> omega)]; simp [go_sem]
  clear b2
  go_wp2
  go_ret2
  exact ⟨rfl, B.out⟩

set_option maxHeartbeats 2000000 in
set_option maxRecDepth 100000 in
theorem rtext_3 (t1 r1 : ByteArray) (d1 z1 : Int) (w : World) (HC : Hid (∀ W, Calls Try.prog 8 #[.agg #[.int .u8 3, .string t1, .string r1, .int .i64 d1, .int .i64 z1]] W fun e w' => e = .returned (.bool true) ∧ Below W.heap.size W w')) :
    Calls Try.prog 6 #[.agg #[.int .u8 3, .string t1, .string r1, .int .i64 d1, .int .i64 z1]] w (TPost w r1 0) := by
  go_enter Try.func6, Try.ntmps6
  go_wp2_with fail
  refine (HC.out _).mono ?_
  rintro e w2 ⟨rfl, b2⟩
  have B : Hid (Below w.heap.size w w2) := (own_below _ _).trans (b2.mono (by simp))
  have a0 : w2.cell? ⟨w.heap.size, 0, none⟩ = some (.int .u8 3) := by rw [(bcell b2).1 _ _ (by simp <;> omega)]; simp [go_sem]
  have a1 : w2.cell? ⟨w.heap.size, 1, none⟩ = some (.string t1) := by rw [(bcell b2).1 _ _ (by simp <;> omega)]; simp [go_sem]
  have a2 : w2.cell? ⟨w.heap.size, 2, none⟩ = some (.string r1) := by rw [(bcell b2).1 _ _ (by simp <;> omega)]; simp [go_sem]
  have a3 : w2.cell? ⟨w.heap.size, 3, none⟩ = some (.int .i64 d1) := by rw [(bcell b2).1 _ _ (by simp <;> omega)]; simp [go_sem]
  have a4 : w2.cell? ⟨w.heap.size, 4, none⟩ = some (.int .i64 z1) := by rw [(bcell b2).1 _ _ (by simp <;> omega)]; simp [go_sem]
  clear b2
  go_wp2
  go_ret2
  exact ⟨rfl, B.out⟩

set_option maxHeartbeats 2000000 in
set_option maxRecDepth 100000 in
theorem rtext_2 (t1 r1 : ByteArray) (d1 z1 : Int) (w : World) (hs : t1.size ≤ 1000) (HC : Hid (∀ W, Calls Try.prog 8 #[.agg #[.int .u8 2, .string t1, .string r1, .int .i64 d1, .int .i64 z1]] W fun e w' => e = .returned (.bool true) ∧ Below W.heap.size W w')) :
    Calls Try.prog 6 #[.agg #[.int .u8 2, .string t1, .string r1, .int .i64 d1, .int .i64 z1]] w (TPost w (⟨#[34]⟩ ++ t1 ++ ⟨#[34]⟩) 0) := by
  go_enter Try.func6, Try.ntmps6
  go_wp2_with fail
  refine (HC.out _).mono ?_
  rintro e w2 ⟨rfl, b2⟩
  have B : Hid (Below w.heap.size w w2) := (own_below _ _).trans (b2.mono (by simp))
  have a0 : w2.cell? ⟨w.heap.size, 0, none⟩ = some (.int .u8 2) := by rw [(bcell b2).1 _ _ (by simp <;> omega)]; simp [go_sem]
  have a1 : w2.cell? ⟨w.heap.size, 1, none⟩ = some (.string t1) := by rw [(bcell b2).1 _ _ (by simp <;> omega)]; simp [go_sem]
  have a2 : w2.cell? ⟨w.heap.size, 2, none⟩ = some (.string r1) := by rw [(bcell b2).1 _ _ (by simp <;> omega)]; simp [go_sem]
  have a3 : w2.cell? ⟨w.heap.size, 3, none⟩ = some (.int .i64 d1) := by rw [(bcell b2).1 _ _ (by simp <;> omega)]; simp [go_sem]
  have a4 : w2.cell? ⟨w.heap.size, 4, none⟩ = some (.int .i64 z1) := by rw [(bcell b2).1 _ _ (by simp <;> omega)]; simp [go_sem]
  clear b2
  go_wp2
  go_ret2
  exact ⟨rfl, B.out⟩

set_option maxHeartbeats 2000000 in
set_option maxRecDepth 100000 in
theorem rtext_4 (t1 r1 : ByteArray) (d1 z1 : Int) (w : World) (HC : Hid (∀ W, Calls Try.prog 8 #[.agg #[.int .u8 4, .string t1, .string r1, .int .i64 d1, .int .i64 z1]] W fun e w' => e = .returned (.bool true) ∧ Below W.heap.size W w')) (s : ByteArray) (HD : Hid (∀ W, Calls Try.prog 13 #[.int .i64 d1] W (TPost W s 0))) :
    Calls Try.prog 6 #[.agg #[.int .u8 4, .string t1, .string r1, .int .i64 d1, .int .i64 z1]] w (TPost w s 0) := by
  go_enter Try.func6, Try.ntmps6
  go_wp2_with fail
  refine (HC.out _).mono ?_
  rintro e w2 ⟨rfl, b2⟩
  have B : Hid (Below w.heap.size w w2) := (own_below _ _).trans (b2.mono (by simp))
  have a0 : w2.cell? ⟨w.heap.size, 0, none⟩ = some (.int .u8 4) := by rw [(bcell b2).1 _ _ (by simp <;> omega)]; simp [go_sem]
  have a1 : w2.cell? ⟨w.heap.size, 1, none⟩ = some (.string t1) := by rw [(bcell b2).1 _ _ (by simp <;> omega)]; simp [go_sem]
  have a2 : w2.cell? ⟨w.heap.size, 2, none⟩ = some (.string r1) := by rw [(bcell b2).1 _ _ (by simp <;> omega)]; simp [go_sem]
  have a3 : w2.cell? ⟨w.heap.size, 3, none⟩ = some (.int .i64 d1) := by rw [(bcell b2).1 _ _ (by simp <;> omega)]; simp [go_sem]
  have a4 : w2.cell? ⟨w.heap.size, 4, none⟩ = some (.int .i64 z1) := by rw [(bcell b2).1 _ _ (by simp <;> omega)]; simp [go_sem]
  clear b2
  go_wp2_with fail
  refine (HD.out _).mono ?_
  rintro e w3 ⟨rfl, b3⟩
  have B3 := Lib.hid (B.out.trans (b3.mono B.out.size))
  clear b3
  go_wp2
  go_ret2
  exact ⟨rfl, B3.out⟩

/-- The text of a token. -/
noncomputable def txT (x : Tk) : ByteArray :=
  if x.kind = 2 then ⟨#[34]⟩ ++ x.text ++ ⟨#[34]⟩ else if x.kind = 3 then x.rat else if x.kind = 4 then ⟨(dtxt x.date).toArray⟩ else x.text
theorem tkB_kind {x : Tk} (h : tkB x = true) : x.kind = 1 ∨ x.kind = 2 ∨ x.kind = 3 ∨ x.kind = 4 ∨ x.kind = 5 := by
  unfold tkB at h
  repeat' split at h
  all_goals first | omega | cases h
theorem tkB_date {x : Tk} (h : tkB x = true) (h4 : x.kind = 4) : 0 ≤ x.date ∧ x.date ≤ 99999 := by
  unfold tkB at h
  rw [h4] at h
  simp at h
  omega
theorem ptext_tk (x : Tk) (w : World) (hr : x.rat.size ≤ 100000) (ht : x.text.size ≤ 1000) : Calls Try.prog 5 #[aggTk x] w (if tkB x = true then TPost w (txT x) 0 else TPost w ⟨#[]⟩ 8) := by
  have HC : ∀ W, _ := fun W => check_tk x W hr
  cases hb : tkB x with
  | false =>
    rw [hb] at HC
    rw [if_neg (by simp)]
    exact ptext_bad _ _ _ _ _ w HC
  | true =>
    rw [hb] at HC
    rw [if_pos rfl]
    have hk := tkB_kind hb
    have hd := tkB_date hb
    obtain ⟨K, t1, r1, d1, z1⟩ := x
    dsimp only at hk hd ht hr
    unfold txT
    rcases hk with rfl | rfl | rfl | rfl | rfl
    · exact ptext_1 t1 r1 d1 z1 w HC
    · exact ptext_2 t1 r1 d1 z1 w ht HC
    · exact ptext_3 t1 r1 d1 z1 w HC
    · exact ptext_4 t1 r1 d1 z1 w HC _ (fun W => dtext_is (hd rfl).1 (hd rfl).2 W)
    · exact ptext_5 t1 r1 d1 z1 w HC

theorem rtext_tk (x : Tk) (w : World) (hr : x.rat.size ≤ 100000) (ht : x.text.size ≤ 1000) : Calls Try.prog 6 #[aggTk x] w (if tkB x = true then TPost w (txT x) 0 else TPost w ⟨#[]⟩ 8) := by
  have HC : ∀ W, _ := fun W => valid_tk x W hr
  cases hb : tkB x with
  | false =>
    rw [hb] at HC
    rw [if_neg (by simp)]
    exact rtext_bad _ _ _ _ _ w HC
  | true =>
    rw [hb] at HC
    rw [if_pos rfl]
    have hk := tkB_kind hb
    have hd := tkB_date hb
    obtain ⟨K, t1, r1, d1, z1⟩ := x
    dsimp only at hk hd ht hr
    unfold txT
    rcases hk with rfl | rfl | rfl | rfl | rfl
    · exact rtext_1 t1 r1 d1 z1 w HC
    · exact rtext_2 t1 r1 d1 z1 w ht HC
    · exact rtext_3 t1 r1 d1 z1 w HC
    · exact rtext_4 t1 r1 d1 z1 w HC _ (fun W => rdtext_is (hd rfl).1 (hd rfl).2 W)
    · exact rtext_5 t1 r1 d1 z1 w HC

end Go.Proofs.Ytnmiiimbjojcmaa
