/-
  Plain mathematics: the text of an amount is read as the amount, and what is read is the text of the amount. No condition.
-/
import Derived.Test.YtnikhbdjlipcbaaGreatDoorWa
import Derived.Test.YtnikhbdjlipcbaaGreatDoorVx
import Derived.Test.YtnikhbdjlipcbaaGreatDoorVl
namespace Go.Proofs.YtnikhbdjlipcbaaGreatDoor

theorem txtN_dd (n : Nat) : txtN n = Lib.decDigits n := by
  induction n using Nat.strongRecOn with
  | _ n ih =>
    rw [Lib.decDigits]
    split
    · rename_i h
      unfold txtN decN
      split
      · rename_i h0; subst h0; rfl
      · rename_i h0
        rw [decL_pos h0, show n / 10 = 0 by omega, decL_zero, show n % 10 = n by omega]; rfl
    · rename_i h
      rw [← ih (n / 10) (by omega)]
      unfold txtN decN
      rw [if_neg (by omega), if_neg (by omega), decL_pos (by omega : n ≠ 0)]
      simp [dgB]
theorem numL_undig (l : List UInt8) : numL l = dval (undig l) := by
  suffices h : ∀ n (l : List UInt8), l.length = n → numL l = dval (undig l) from h _ l rfl
  intro n
  induction n with
  | zero => intro l hl; rw [List.eq_nil_of_length_eq_zero hl]; rfl
  | succ n ih =>
    intro l hl
    have hne : l ≠ [] := fun h => by rw [h] at hl; cases hl
    obtain ⟨A, c, rfl⟩ : ∃ A c, l = A ++ [c] := ⟨l.dropLast, l.getLast hne, (List.dropLast_concat_getLast hne).symm⟩
    rw [numL_snoc, dval_undig_snoc, ih A (by simpa using hl)]; omega
theorem numL_dd (n : Nat) : numL (Lib.decDigits n) = n := by rw [numL_undig, ← txtN_dd, undig_txtN, dval_decN]
theorem dd_dig (n : Nat) : ∀ c ∈ Lib.decDigits n, isDig c = true := fun c hc => by
  rw [← txtN_dd] at hc
  exact isDig_iff.2 (txtN_dig n c hc)
theorem dd_can (n : Nat) : Lib.decDigits n ≠ [] ∧ ((Lib.decDigits n).head? = some 48 → (Lib.decDigits n).length = 1) := by
  rw [← txtN_dd]
  have h := canN_txtN n
  exact ⟨h.1, h.2.2⟩
theorem dd_of {l : List UInt8} (h1 : l ≠ []) (h2 : ∀ c ∈ l, isDig c = true) (h3 : ¬(1 < l.length ∧ l.head? = some 48)) : Lib.decDigits (numL l) = l := by
  rw [numL_undig, ← txtN_dd]
  refine txtN_undig l ⟨h1, fun c hc => isDig_iff.1 (h2 c hc), fun hh => ?_⟩
  have : 0 < l.length := List.length_pos_iff.2 h1
  rcases Nat.lt_or_ge 1 l.length with h | h
  · exact absurd ⟨h, hh⟩ h3
  · omega
theorem numF_snoc (n : Nat) (l : List UInt8) (c : UInt8) : numF n (l ++ [c]) = 10 * numF n l + (c.toNat - 48) := by unfold numF; rw [List.foldl_append]; rfl
theorem numL_app (a b : List UInt8) : numL (a ++ b) = numF (numL a) b := by unfold numL numF; rw [List.foldl_append]
theorem numF_figB (u : Nat) : ∀ x n, numF x (figB n u) = x * 10 ^ u + n % 10 ^ u := by
  induction u with
  | zero => intro x n; simp [figB, numF, Nat.mod_one]
  | succ u ih =>
    intro x n
    have e2 : figB n (u + 1) = figB (n / 10) u ++ [UInt8.ofNat (48 + n % 10)] := rfl
    rw [e2, numF_snoc, ih, dDig _ (by omega), Nat.pow_succ]
    have h1 : n % (10 ^ u * 10) = n % 10 + 10 * (n / 10 % 10 ^ u) := by rw [Nat.mul_comm, Nat.mod_mul]
    rw [h1, Nat.mul_add, Nat.add_assoc, Nat.mul_comm 10 (x * 10 ^ u), Nat.mul_assoc]
    omega
theorem figB_digs (n u : Nat) : ∀ c ∈ figB n u, isDig c = true := by
  induction u generalizing n with
  | zero => intro c hc; simp [figB] at hc
  | succ u ih =>
    intro c hc
    rw [show figB n (u + 1) = figB (n / 10) u ++ [UInt8.ofNat (48 + n % 10)] from rfl] at hc
    rcases List.mem_append.1 hc with hc | hc
    · exact ih _ c hc
    · rw [List.mem_singleton.1 hc]
      have := dDig (n % 10) (by omega)
      exact isDig_iff.2 (by omega)
/-- Digits that come back from their value. -/
theorem figB_of (B : List UInt8) (hB : ∀ c ∈ B, isDig c = true) : ∀ a, figB (numF a B) B.length = B ∧ numF a B / 10 ^ B.length = a := by
  suffices h : ∀ n (B : List UInt8), B.length = n → (∀ c ∈ B, isDig c = true) → ∀ a, figB (numF a B) n = B ∧ numF a B / 10 ^ n = a from h _ B rfl hB
  intro n
  induction n with
  | zero => intro B hl _ a; rw [List.eq_nil_of_length_eq_zero hl]; simp [figB, numF]
  | succ n ih =>
    intro B hl hB a
    have hne : B ≠ [] := fun h => by rw [h] at hl; cases hl
    obtain ⟨A, c, rfl⟩ : ∃ A c, B = A ++ [c] := ⟨B.dropLast, B.getLast hne, (List.dropLast_concat_getLast hne).symm⟩
    obtain ⟨h1, h2⟩ := ih A (by simpa using hl) (fun x hx => hB x (List.mem_append_left _ hx)) a
    have hc := isDig_iff.1 (hB c (by simp))
    rw [numF_snoc]
    have e1 : (10 * numF a A + (c.toNat - 48)) / 10 = numF a A := by omega
    have e2 : (10 * numF a A + (c.toNat - 48)) % 10 = c.toNat - 48 := by omega
    refine ⟨?_, ?_⟩
    · rw [show figB (10 * numF a A + (c.toNat - 48)) (n + 1) = figB ((10 * numF a A + (c.toNat - 48)) / 10) n ++ [UInt8.ofNat (48 + (10 * numF a A + (c.toNat - 48)) % 10)] from rfl, e1, e2, h1]
      congr 2
      rw [show 48 + (c.toNat - 48) = c.toNat by omega]
      simp
    · rw [Nat.pow_succ, Nat.mul_comm (10 ^ n) 10, ← Nat.div_div_eq_div_mul, e1, h2]
theorem dig_no {l : List UInt8} (h : ∀ c ∈ l, isDig c = true) {x : UInt8} (hx : isDig x = false) : x ∉ l := fun hm => by rw [h x hm] at hx; cases hx

/-- The digits of an amount, with their point. -/
def digA (a u : Nat) : List UInt8 := Lib.decDigits (a / 10 ^ u) ++ (if u = 0 then [] else 46 :: figB a u)
theorem digA_ok (a u : Nat) : figOK u (digA a u) = true ∧ figN (digA a u) = a ∧ (32 : UInt8) ∉ digA a u ∧ (digA a u).head? ≠ some 45 := by
  have hD := dd_dig (a / 10 ^ u)
  have hC := dd_can (a / 10 ^ u)
  have hn46 : (46 : UInt8) ∉ Lib.decDigits (a / 10 ^ u) := dig_no hD (by decide)
  have hhd : ∀ x, (digA a u).head? = some x → isDig x = true := fun x hx => by
    unfold digA at hx
    cases hq : Lib.decDigits (a / 10 ^ u) with
    | nil => exact absurd hq hC.1
    | cons y t =>
      rw [hq] at hx
      simp only [List.cons_append, List.head?_cons] at hx
      injection hx with hx
      rw [← hx]
      exact hD y (by rw [hq]; simp)
  have h45 : (digA a u).head? ≠ some 45 := fun h => by have := hhd _ h; revert this; decide
  by_cases hu : u = 0
  · subst hu
    have e : digA a 0 = Lib.decDigits (a / 10 ^ 0) := by unfold digA; simp
    obtain ⟨e1, e2⟩ := upTo_no hn46
    have hc : (Lib.decDigits (a / 10 ^ 0)).contains 46 = false := by simpa using hn46
    refine ⟨?_, ?_, ?_, h45⟩
    · rw [e]
      unfold figOK
      rw [e1, e2, hc]
      simp only [Bool.and_eq_true, Bool.not_eq_true', Bool.and_eq_false_iff, decide_eq_true_eq, decide_eq_false_iff_not, List.all_nil, List.length_nil]
      refine ⟨⟨⟨⟨⟨List.length_pos_iff.2 hC.1, List.all_eq_true.2 hD⟩, ?_⟩, by decide⟩, trivial⟩, trivial⟩
      by_cases hh : (Lib.decDigits (a / 10 ^ 0)).head? = some 48
      · exact .inl (by have := hC.2 hh; omega)
      · exact .inr hh
    · rw [e]
      unfold figN
      rw [e1, e2, List.append_nil, numL_dd]; simp
    · rw [e]; exact dig_no hD (by decide)
  · have e : digA a u = Lib.decDigits (a / 10 ^ u) ++ 46 :: figB a u := by unfold digA; rw [if_neg hu]
    obtain ⟨e1, e2⟩ := upTo_of (B := figB a u) hn46
    have hF := figB_digs a u
    have hc : (Lib.decDigits (a / 10 ^ u) ++ 46 :: figB a u).contains 46 = true := by simp
    refine ⟨?_, ?_, ?_, h45⟩
    · rw [e]
      unfold figOK
      rw [e1, e2, hc]
      simp only [Bool.and_eq_true, Bool.not_eq_true', Bool.and_eq_false_iff, decide_eq_true_eq, decide_eq_false_iff_not]
      refine ⟨⟨⟨⟨⟨List.length_pos_iff.2 hC.1, List.all_eq_true.2 hD⟩, ?_⟩, by simp; omega⟩, figB_len a u⟩, List.all_eq_true.2 hF⟩
      by_cases hh : (Lib.decDigits (a / 10 ^ u)).head? = some 48
      · exact .inl (by have := hC.2 hh; omega)
      · exact .inr hh
    · rw [e]
      unfold figN
      rw [e1, e2, numL_app, numL_dd, numF_figB]
      exact Nat.div_add_mod' a (10 ^ u)
    · rw [e]
      intro hm
      rcases List.mem_append.1 hm with hm | hm
      · exact dig_no hD (by decide) hm
      · rcases List.mem_cons.1 hm with hm | hm
        · revert hm; decide
        · exact dig_no hF (by decide) hm
theorem amtB_eq (n : Int) (u : Nat) (c : List UInt8) : amtB n u c = ((if n < 0 then [45] else []) ++ digA n.natAbs u) ++ 32 :: c := by unfold amtB digA; simp
/-- What is shown is read. -/
theorem read_show (n : Int) (u : Nat) (c : List UInt8) (un : List UInt8 → Option Nat) (hu : un c = some u) (ha : -1125899906842624 ≤ n ∧ n ≤ 1125899906842624) : readA un (amtB n u c) = (n, c, 0) := by
  obtain ⟨h1, h2, h3, h4⟩ := digA_ok n.natAbs u
  have hno : (32 : UInt8) ∉ ((if n < 0 then [45] else []) ++ digA n.natAbs u) := fun hm => by
    rcases List.mem_append.1 hm with hm | hm
    · split at hm
      · revert hm; decide
      · cases hm
    · exact h3 hm
  obtain ⟨e1, e2⟩ := upTo_of (B := c) hno
  rw [amtB_eq]
  unfold readA
  rw [e2, hu]
  simp only [e1]
  by_cases hn : n < 0
  · simp only [hn, if_true, List.cons_append, List.nil_append, List.head?_cons, decide_true, List.tail_cons, h1, h2, Bool.true_eq_false, if_false]
    rw [if_neg (by omega), if_neg (by unfold maxM; omega)]
    rw [show -((n.natAbs : Nat) : Int) = n by omega]
  · have hd : decide ((digA n.natAbs u).head? = some 45) = false := by simpa using h4
    simp only [hn, if_false, List.nil_append, hd, Bool.false_eq_true, h1, h2, Bool.true_eq_false]
    by_cases h0 : n.natAbs = 0
    · rw [if_pos h0, show n = 0 by omega]
    · rw [if_neg h0, if_neg (by unfold maxM; omega), show ((n.natAbs : Nat) : Int) = n by omega]
theorem digA_of {u : Nat} {d : List UInt8} (h : figOK u d = true) : digA (figN d) u = d := by
  unfold figOK at h
  simp only [Bool.and_eq_true, Bool.not_eq_true', Bool.and_eq_false_iff, decide_eq_true_eq, decide_eq_false_iff_not, beq_iff_eq] at h
  obtain ⟨⟨⟨⟨⟨h1, h2⟩, h3⟩, h4⟩, h5⟩, h6⟩ := h
  have h2 := List.all_eq_true.1 h2
  have h6 := List.all_eq_true.1 h6
  have hne : upTo 46 d ≠ [] := fun h => by rw [h] at h1; simp at h1
  have hcan : ¬(1 < (upTo 46 d).length ∧ (upTo 46 d).head? = some 48) := fun ⟨a, b⟩ => by
    rcases h3 with h3 | h3
    · exact h3 a
    · exact h3 b
  obtain ⟨f1, f2⟩ := figB_of (past 46 d) h6 (numL (upTo 46 d))
  rw [h5] at f1 f2
  have fv : figN d = numF (numL (upTo 46 d)) (past 46 d) := by unfold figN; rw [numL_app]
  unfold digA
  rw [fv, f2, dd_of hne h2 hcan]
  by_cases hu : u = 0
  · subst hu
    have hno : (46 : UInt8) ∉ d := by simpa using h4
    rw [if_pos rfl, (upTo_no hno).1, List.append_nil]
  · have hm : (46 : UInt8) ∈ d := by
      have : decide (0 < u) = true := by simp; omega
      rw [this] at h4
      simpa using h4
    rw [if_neg hu, f1]
    exact (mem_split hm).1.symm
/-- What is read is the text of the amount. -/
theorem show_read {l : List UInt8} {un : List UInt8 → Option Nat} {k : Int} {c : List UInt8} (hn : un [] = none) (h : readA un l = (k, c, 0)) : ∃ u, un c = some u ∧ (-1125899906842624 ≤ k ∧ k ≤ 1125899906842624) ∧ amtB k u c = l := by
  unfold readA at h
  cases hu : un (past 32 l) with
  | none => rw [hu] at h; simp at h
  | some u =>
    rw [hu] at h
    simp only at h
    have hm : (32 : UInt8) ∈ l := by
      by_cases hm : (32 : UInt8) ∈ l
      · exact hm
      · rw [(upTo_no hm).2, hn] at hu; cases hu
    have hsp := (mem_split hm).1
    obtain ⟨num, hnum⟩ : ∃ num, num = upTo 32 l := ⟨_, rfl⟩
    rw [← hnum] at h hsp
    by_cases h45 : num.head? = some 45
    · simp only [h45, decide_true, if_true] at h
      by_cases hf : figOK u num.tail = false
      · rw [if_pos hf] at h; simp at h
      · rw [if_neg hf] at h
        by_cases h0 : figN num.tail = 0
        · rw [if_pos h0] at h; simp at h
        · rw [if_neg h0] at h
          by_cases hb : maxM < figN num.tail
          · rw [if_pos hb] at h; simp at h
          · rw [if_neg hb] at h
            have hd := digA_of (by simpa using hf : figOK u num.tail = true)
            have hk : k = -(figN num.tail : Int) := by injection h with h _; exact h.symm
            have hc : c = past 32 l := by injection h with _ h; injection h with h _; exact h.symm
            have hmx : maxM = 1125899906842624 := rfl
            refine ⟨u, by rw [hc]; exact hu, by omega, ?_⟩
            have hnn : num = 45 :: num.tail := by
              cases num with
              | nil => cases h45
              | cons x t => injection h45 with h45; rw [h45]; rfl
            rw [amtB_eq, hk, if_pos (by omega), show (-(figN num.tail : Int)).natAbs = figN num.tail by omega, hd, hc, show [45] ++ num.tail = num from hnn.symm]
            exact hsp.symm
    · have hd45 : decide (num.head? = some 45) = false := by simpa using h45
      simp only [hd45, Bool.false_eq_true, if_false] at h
      by_cases hf : figOK u num = false
      · rw [if_pos hf] at h; simp at h
      · rw [if_neg hf] at h
        have hd := digA_of (by simpa using hf : figOK u num = true)
        by_cases h0 : figN num = 0
        · rw [if_pos h0] at h
          have hk : k = 0 := by injection h with h _; exact h.symm
          have hc : c = past 32 l := by injection h with _ h; injection h with h _; exact h.symm
          refine ⟨u, by rw [hc]; exact hu, by omega, ?_⟩
          rw [h0] at hd
          rw [amtB_eq, hk, if_neg (by omega), List.nil_append, show (0 : Int).natAbs = 0 from rfl, hd, hc]
          exact hsp.symm
        · rw [if_neg h0] at h
          by_cases hb : maxM < figN num
          · rw [if_pos hb] at h; simp at h
          · rw [if_neg hb] at h
            have hk : k = (figN num : Int) := by injection h with h _; exact h.symm
            have hc : c = past 32 l := by injection h with _ h; injection h with h _; exact h.symm
            have hmx : maxM = 1125899906842624 := rfl
            refine ⟨u, by rw [hc]; exact hu, by omega, ?_⟩
            rw [amtB_eq, hk, if_neg (by omega), List.nil_append, show ((figN num : Nat) : Int).natAbs = figN num from rfl, hd, hc]
            exact hsp.symm
theorem read_no {l : List UInt8} {un : List UInt8 → Option Nat} (h : (readA un l).2.2 ≠ 0) : (readA un l).1 = 0 ∧ (readA un l).2.1 = [] := by
  unfold readA at h ⊢
  cases hu : un (past 32 l) with
  | none => exact ⟨rfl, rfl⟩
  | some u =>
    rw [hu] at h
    simp only at h ⊢
    repeat' (split at h)
    all_goals (first | exact absurd rfl h | (simp_all; done) | exact ⟨rfl, rfl⟩)

end Go.Proofs.YtnikhbdjlipcbaaGreatDoor
