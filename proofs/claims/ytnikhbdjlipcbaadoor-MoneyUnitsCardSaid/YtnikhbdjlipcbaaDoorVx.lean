/-
  Plain mathematics: the text of an amount, and the amount of a text. No condition. Plain mathematics: the form of the digits of an amount, place by place. No condition.
-/
import Derived.Test.YtnikhbdjlipcbaaDoorVc
import Derived.Lib.ItoaNum
namespace Go.Proofs.YtnikhbdjlipcbaaDoor

theorem dDig (d : Nat) (h : d < 10) : (UInt8.ofNat (48 + d)).toNat = 48 + d := by rw [UInt8.toNat_ofNat']; omega
theorem dec_pos (n : Nat) : 1 ≤ (Lib.decDigits n).length := by
  rw [Lib.decDigits]
  split
  · simp
  · simp
/-- The digits of a number, with zeros ahead, parted before the last ones. -/
theorem pad_split (u : Nat) : ∀ n, List.replicate (u + 1 - (Lib.decDigits n).length) (48 : UInt8) ++ Lib.decDigits n = Lib.decDigits (n / 10 ^ u) ++ figB n u := by
  induction u with
  | zero =>
    intro n
    have := dec_pos n
    rw [show 0 + 1 - (Lib.decDigits n).length = 0 by omega]
    simp [figB]
  | succ u ih =>
    intro n
    have h := ih (n / 10)
    have e1 : n / 10 ^ (u + 1) = n / 10 / 10 ^ u := by rw [Nat.pow_succ, Nat.mul_comm, Nat.div_div_eq_div_mul]
    have e2 : figB n (u + 1) = figB (n / 10) u ++ [UInt8.ofNat (48 + n % 10)] := rfl
    rw [e1, e2, ← List.append_assoc, ← h]
    by_cases hn : n < 10
    · have e3 : Lib.decDigits n = [UInt8.ofNat (48 + n)] := by rw [Lib.decDigits, dif_pos hn]
      have e4 : n / 10 = 0 := by omega
      have e5 : Lib.decDigits 0 = [48] := by rw [Lib.decDigits]; rfl
      rw [e3, e4, e5, show n % 10 = n by omega]
      simp only [List.length_singleton]
      rw [show u + 1 + 1 - 1 = u + 1 by omega, show u + 1 - 1 = u by omega, List.replicate_succ']
    · have e3 : Lib.decDigits n = Lib.decDigits (n / 10) ++ [UInt8.ofNat (48 + n % 10)] := by rw [Lib.decDigits, dif_neg hn]
      rw [e3, List.length_append, List.length_singleton, show u + 1 + 1 - ((Lib.decDigits (n / 10)).length + 1) = u + 1 - (Lib.decDigits (n / 10)).length by omega, List.append_assoc]
/-- The text of an amount in a unit. -/
def amtB (n : Int) (u : Nat) (ccy : List UInt8) : List UInt8 :=
  (if n < 0 then [45] else []) ++ (Lib.decDigits (n.natAbs / 10 ^ u) ++ (if u = 0 then [] else 46 :: figB n.natAbs u)) ++ 32 :: ccy

/-- The value of digits. -/
def numL (l : List UInt8) : Nat := l.foldl (fun n c => 10 * n + (c.toNat - 48)) 0
theorem numL_snoc (l : List UInt8) (c : UInt8) : numL (l ++ [c]) = 10 * numL l + (c.toNat - 48) := by unfold numL; rw [List.foldl_append]; rfl
theorem numL_zero (l : List UInt8) : numL (48 :: l) = numL l := rfl
def isDig (c : UInt8) : Bool := decide (48 ≤ c.toNat ∧ c.toNat ≤ 57)
def upTo (c : UInt8) (l : List UInt8) : List UInt8 := l.takeWhile (· != c)
def past (c : UInt8) (l : List UInt8) : List UInt8 := (l.dropWhile (· != c)).drop 1

/-- The form of the digits of an amount. -/
def figOK (u : Nat) (d : List UInt8) : Bool :=
  decide (1 ≤ (upTo 46 d).length) && (upTo 46 d).all isDig && !(decide (1 < (upTo 46 d).length) && decide ((upTo 46 d).head? = some 48)) &&
    (d.contains 46 == decide (0 < u)) && decide ((past 46 d).length = u) && (past 46 d).all isDig
def figN (d : List UInt8) : Nat := numL (upTo 46 d ++ past 46 d)
def maxM : Nat := 1125899906842624
/-- What a text says: the amount and the currency, or an error. -/
def readA (unit : List UInt8 → Option Nat) (l : List UInt8) : Int × List UInt8 × Int :=
  match unit (past 32 l) with
  | none => (0, [], 12)
  | some u =>
    let num := upTo 32 l
    let minus := decide (num.head? = some 45)
    let d := if minus then num.tail else num
    if figOK u d = false then (0, [], 12)
    else if figN d = 0 then (if minus then (0, [], 12) else (0, past 32 l, 0))
    else if maxM < figN d then (0, [], 14)
    else (if minus then -(figN d : Int) else (figN d : Int), past 32 l, 0)

end Go.Proofs.YtnikhbdjlipcbaaDoor

namespace Go.Proofs.YtnikhbdjlipcbaaDoor

theorem mem_split {c : UInt8} {l : List UInt8} (h : c ∈ l) : l = upTo c l ++ c :: past c l ∧ c ∉ upTo c l := by
  induction l with
  | nil => cases h
  | cons a l ih =>
    by_cases e : a = c
    · subst e
      have hb : (a != a) = false := by simp
      unfold upTo past
      simp only [List.takeWhile, List.dropWhile, hb]
      exact ⟨rfl, by simp⟩
    · have hb : (a != c) = true := by simpa using e
      have hm : c ∈ l := by
        rcases List.mem_cons.1 h with h | h
        · exact absurd h.symm e
        · exact h
      obtain ⟨h1, h2⟩ := ih hm
      unfold upTo past at *
      simp only [List.takeWhile, List.dropWhile, hb]
      refine ⟨by rw [List.cons_append, ← h1], fun hc => ?_⟩
      rcases List.mem_cons.1 hc with hc | hc
      · exact e hc.symm
      · exact h2 hc
theorem upTo_of {A B : List UInt8} {c : UInt8} (h : c ∉ A) : upTo c (A ++ c :: B) = A ∧ past c (A ++ c :: B) = B := by
  induction A with
  | nil => simp [upTo, past]
  | cons a A ih =>
    have ha : a ≠ c := fun e => h (by rw [e]; exact List.mem_cons_self)
    obtain ⟨h1, h2⟩ := ih fun hm => h (List.mem_cons_of_mem _ hm)
    have hb : (a != c) = true := by simpa using ha
    unfold upTo past at *
    simp only [List.cons_append, List.takeWhile, List.dropWhile, hb]
    exact ⟨by rw [h1], h2⟩
theorem upTo_no {l : List UInt8} {c : UInt8} (h : c ∉ l) : upTo c l = l ∧ past c l = [] := by
  induction l with
  | nil => exact ⟨rfl, rfl⟩
  | cons a A ih =>
    have ha : a ≠ c := fun e => h (by rw [e]; exact List.mem_cons_self)
    obtain ⟨h1, h2⟩ := ih fun hm => h (List.mem_cons_of_mem _ hm)
    have hb : (a != c) = true := by simpa using ha
    unfold upTo past at *
    simp only [List.takeWhile, List.dropWhile, hb]
    exact ⟨by rw [h1], h2⟩

/-- What may stand at a place of the digits: a point behind the whole part, else a digit. -/
def okAt (u wl k : Nat) (c : UInt8) : Prop := if 0 < u ∧ k = wl then c = 46 else isDig c = true
def digs (u wl : Nat) (d : List UInt8) : List UInt8 := if u = 0 then d else d.take wl ++ d.drop (wl + 1)
def figAt (u wl : Nat) (d : List UInt8) : Prop :=
  d.length = wl + (if u = 0 then 0 else u + 1) ∧ 1 ≤ wl ∧ ¬(1 < wl ∧ d.head? = some 48) ∧ ∀ k c, d[k]? = some c → okAt u wl k c
theorem dig_46 {l : List UInt8} (h : ∀ c ∈ l, isDig c = true) : (46 : UInt8) ∉ l := fun hm => by
  have := h 46 hm
  revert this; decide
theorem fig_num {u wl : Nat} {d : List UInt8} (h : figAt u wl d) : figOK u d = true ∧ upTo 46 d ++ past 46 d = digs u wl d := by
  obtain ⟨h1, h2, h3, h4⟩ := h
  by_cases hu : u = 0
  · subst hu
    have hd : ∀ c ∈ d, isDig c = true := fun c hc => by
      obtain ⟨k, hk⟩ := List.getElem?_of_mem hc
      have := h4 k c hk
      unfold okAt at this
      rwa [if_neg (by omega)] at this
    obtain ⟨e1, e2⟩ := upTo_no (dig_46 hd)
    have hc : d.contains 46 = false := by simpa using dig_46 hd
    simp only [if_true, Nat.add_zero] at h1
    refine ⟨?_, by rw [e1, e2]; simp [digs]⟩
    unfold figOK
    rw [e1, e2, hc]
    simp only [Bool.and_eq_true, Bool.not_eq_true', Bool.and_eq_false_iff, decide_eq_true_eq, decide_eq_false_iff_not, List.all_nil, List.length_nil]
    refine ⟨⟨⟨⟨⟨by omega, List.all_eq_true.2 hd⟩, ?_⟩, by decide⟩, trivial⟩, trivial⟩
    by_cases hw : 1 < wl
    · exact .inr fun hh => h3 ⟨hw, hh⟩
    · exact .inl (by omega)
  · rw [if_neg hu] at h1
    have hwl : wl < d.length := by omega
    have h46 : d[wl]? = some 46 := by
      rw [List.getElem?_eq_getElem hwl]
      have := h4 wl _ (List.getElem?_eq_getElem hwl)
      unfold okAt at this
      rw [if_pos ⟨by omega, rfl⟩] at this
      rw [this]
    have hsp : d = d.take wl ++ 46 :: d.drop (wl + 1) := by
      have e := (List.take_append_drop wl d).symm
      rw [List.drop_eq_getElem_cons hwl] at e
      have : d[wl] = 46 := by
        rw [List.getElem?_eq_getElem hwl] at h46
        exact Option.some.inj h46
      rwa [this] at e
    have hA : ∀ c ∈ d.take wl, isDig c = true := fun c hc => by
      obtain ⟨k, hk⟩ := List.getElem?_of_mem hc
      have hlt : k < wl := by
        have := (List.getElem?_eq_some_iff.1 hk).1
        simp at this; omega
      rw [List.getElem?_take_of_lt hlt] at hk
      have := h4 k c hk
      unfold okAt at this
      rwa [if_neg (by omega)] at this
    have hB : ∀ c ∈ d.drop (wl + 1), isDig c = true := fun c hc => by
      obtain ⟨k, hk⟩ := List.getElem?_of_mem hc
      rw [List.getElem?_drop] at hk
      have := h4 _ c hk
      unfold okAt at this
      rwa [if_neg (by omega)] at this
    obtain ⟨e1, e2⟩ := upTo_of (A := d.take wl) (B := d.drop (wl + 1)) (dig_46 hA)
    rw [← hsp] at e1 e2
    have hc : d.contains 46 = true := by simpa using List.mem_of_getElem? h46
    have hl : (d.take wl).length = wl := by simp; omega
    refine ⟨?_, by rw [e1, e2]; unfold digs; rw [if_neg hu]⟩
    unfold figOK
    rw [e1, e2, hc, hl]
    simp only [Bool.and_eq_true, Bool.not_eq_true', Bool.and_eq_false_iff, decide_eq_true_eq, decide_eq_false_iff_not]
    refine ⟨⟨⟨⟨⟨h2, List.all_eq_true.2 hA⟩, ?_⟩, by simp; omega⟩, by simp; omega⟩, List.all_eq_true.2 hB⟩
    by_cases hw : 1 < wl
    · refine .inr fun hh => h3 ⟨hw, ?_⟩
      rw [List.head?_eq_getElem?] at hh ⊢
      rwa [List.getElem?_take_of_lt (by omega)] at hh
    · exact .inl hw
theorem fig_at {u : Nat} {d : List UInt8} (h : figOK u d = true) : ∃ wl, figAt u wl d := by
  unfold figOK at h
  simp only [Bool.and_eq_true, Bool.not_eq_true', Bool.and_eq_false_iff, decide_eq_true_eq, decide_eq_false_iff_not, beq_iff_eq] at h
  obtain ⟨⟨⟨⟨⟨h1, h2⟩, h3⟩, h4⟩, h5⟩, h6⟩ := h
  have h2 := List.all_eq_true.1 h2
  have h6 := List.all_eq_true.1 h6
  by_cases hu : u = 0
  · subst hu
    have hno : (46 : UInt8) ∉ d := by simpa using h4
    obtain ⟨e1, e2⟩ := upTo_no hno
    rw [e1] at h1 h2 h3
    refine ⟨d.length, by simp, h1, fun ⟨a, b⟩ => ?_, fun k c hk => ?_⟩
    · rcases h3 with h3 | h3
      · exact h3 a
      · exact h3 b
    · unfold okAt
      rw [if_neg (by omega)]
      exact h2 c (List.mem_of_getElem? hk)
  · have hm : (46 : UInt8) ∈ d := by
      have : decide (0 < u) = true := by simp; omega
      rw [this] at h4
      simpa using h4
    obtain ⟨e1, e2⟩ := mem_split hm
    have hlen : d.length = (upTo 46 d).length + (u + 1) := by
      have := congrArg List.length e1
      rw [List.length_append, List.length_cons, h5] at this
      exact this
    refine ⟨(upTo 46 d).length, by rw [if_neg hu]; exact hlen, h1, fun ⟨a, b⟩ => ?_, fun k c hk => ?_⟩
    · rcases h3 with h3 | h3
      · exact h3 a
      · refine h3 ?_
        rw [e1, List.head?_append] at b
        cases hh : (upTo 46 d).head? with
        | none => rw [List.head?_eq_none_iff] at hh; rw [hh] at h1; simp at h1
        | some x => rw [hh] at b; simpa using b
    · unfold okAt
      rw [e1] at hk
      by_cases k1 : k < (upTo 46 d).length
      · rw [List.getElem?_append_left k1] at hk
        rw [if_neg (by omega)]
        exact h2 c (List.mem_of_getElem? hk)
      · rw [List.getElem?_append_right (by omega)] at hk
        by_cases k2 : k = (upTo 46 d).length
        · rw [if_pos ⟨by omega, k2⟩]
          rw [k2, Nat.sub_self] at hk
          exact (Option.some.inj hk).symm
        · rw [if_neg (by omega)]
          obtain ⟨j, hj⟩ : ∃ j, k - (upTo 46 d).length = j + 1 := ⟨k - (upTo 46 d).length - 1, by omega⟩
          rw [hj] at hk
          exact h6 c (List.mem_of_getElem? hk)

theorem digs_dig {u wl : Nat} {d : List UInt8} {k : Nat} {c : UInt8} (hc : d[k]? = some c) (h : ¬(0 < u ∧ k = wl)) : digs u wl (d.take (k + 1)) = digs u wl (d.take k) ++ [c] := by
  have hk := (List.getElem?_eq_some_iff.1 hc).1
  have e : d.take (k + 1) = d.take k ++ [c] := by rw [List.take_add_one, hc]; rfl
  unfold digs
  rw [e]
  by_cases hu : u = 0
  · rw [if_pos hu, if_pos hu]
  · rw [if_neg hu, if_neg hu]
    have hl : (d.take k).length = k := by simp; omega
    by_cases hw : k < wl
    · rw [List.take_of_length_le (l := d.take k ++ [c]) (by rw [List.length_append, hl]; simp; omega), List.take_of_length_le (l := d.take k) (by rw [hl]; omega), List.drop_of_length_le (l := d.take k ++ [c]) (by rw [List.length_append, hl]; simp; omega), List.drop_of_length_le (l := d.take k) (by rw [hl]; omega)]
      simp
    · have hw2 : wl < k := by omega
      rw [List.take_append_of_le_length (by rw [hl]; omega), List.drop_append_of_le_length (by rw [hl]; omega)]
      simp
theorem digs_pt {u wl : Nat} {d : List UInt8} {k : Nat} {c : UInt8} (hc : d[k]? = some c) (h : 0 < u ∧ k = wl) : digs u wl (d.take (k + 1)) = digs u wl (d.take k) := by
  have hk := (List.getElem?_eq_some_iff.1 hc).1
  have e : d.take (k + 1) = d.take k ++ [c] := by rw [List.take_add_one, hc]; rfl
  obtain ⟨hu, rfl⟩ := h
  have hl : (d.take k).length = k := by simp; omega
  unfold digs
  rw [e, if_neg (by omega), if_neg (by omega), List.take_append_of_le_length (by rw [hl]; exact Nat.le_refl _), List.drop_of_length_le (l := d.take k ++ [c]) (by rw [List.length_append, hl]; simp), List.drop_of_length_le (l := d.take k) (by rw [hl]; omega)]
/-- A number that stops at the greatest amount. -/
def SatN (V n : Nat) (big : Bool) : Prop := (big = false ∧ n = V ∧ V ≤ maxM) ∨ (big = true ∧ n = maxM ∧ maxM < V)
theorem sat_more {V n : Nat} {big : Bool} (h : SatN V n big) (c : Nat) (hm : maxM < 10 * n + c) : SatN (10 * V + c) maxM true := by
  unfold maxM at *
  rcases h with ⟨_, h2, h3⟩ | ⟨_, h2, h3⟩
  · exact .inr ⟨rfl, rfl, by unfold maxM; omega⟩
  · exact .inr ⟨rfl, rfl, by unfold maxM at *; omega⟩
theorem sat_less {V n : Nat} {big : Bool} (h : SatN V n big) (c : Nat) (hm : ¬maxM < 10 * n + c) : SatN (10 * V + c) (10 * n + c) big := by
  rcases h with ⟨h1, h2, h3⟩ | ⟨h1, h2, h3⟩
  · exact .inl ⟨h1, by rw [h2], by rw [← h2]; omega⟩
  · unfold maxM at *; omega

end Go.Proofs.YtnikhbdjlipcbaaDoor
