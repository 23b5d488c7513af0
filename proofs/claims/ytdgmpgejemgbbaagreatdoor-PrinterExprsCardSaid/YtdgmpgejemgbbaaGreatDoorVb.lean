/-
  Plain mathematics: decimal texts, digits, magnitudes. No condition.
-/
import Derived.Test.YtdgmpgejemgbbaaGreatDoorVa
namespace Go.Proofs.YtdgmpgejemgbbaaGreatDoor

/-- Little-endian decimal value. -/
def dval : List Nat → Nat
  | [] => 0
  | x :: l => x + 10 * dval l
/-- The digits of a number, the last one first; none for 0. -/
def decL (n : Nat) : List Nat := if h : n = 0 then [] else n % 10 :: decL (n / 10)
termination_by n
decreasing_by omega
theorem decL_zero : decL 0 = [] := by rw [decL]; simp
theorem decL_pos {n : Nat} (h : n ≠ 0) : decL n = n % 10 :: decL (n / 10) := by rw [decL]; simp [h]
theorem dval_decL (n : Nat) : dval (decL n) = n := by
  induction n using Nat.strongRecOn with
  | _ n ih =>
    by_cases h : n = 0
    · subst h; rw [decL_zero]; rfl
    · rw [decL_pos h, dval, ih (n / 10) (by omega)]; omega
/-- Canonical little-endian digits. -/
def Dig (l : List Nat) : Prop := (∀ x ∈ l, x < 10) ∧ l.getLast? ≠ some 0
theorem dig_decL (n : Nat) : Dig (decL n) := by
  induction n using Nat.strongRecOn with
  | _ n ih =>
    by_cases h : n = 0
    · subst h; rw [decL_zero]; exact ⟨by simp, by simp⟩
    · rw [decL_pos h]
      obtain ⟨h1, h2⟩ := ih (n / 10) (by omega)
      refine ⟨?_, ?_⟩
      · intro x hx
        rcases List.mem_cons.1 hx with rfl | hx
        · omega
        · exact h1 x hx
      · by_cases hz : n / 10 = 0
        · rw [hz, decL_zero]; simp; omega
        · rw [decL_pos hz] at h2 ⊢; simpa [List.getLast?_cons_cons] using h2
theorem decL_dval (l : List Nat) (h : Dig l) : decL (dval l) = l := by
  induction l with
  | nil => exact decL_zero
  | cons x l ih =>
    obtain ⟨h1, h2⟩ := h
    have hx : x < 10 := h1 x (by simp)
    have hl : Dig l := ⟨fun y hy => h1 y (by simp [hy]), by
      cases l with
      | nil => simp
      | cons y l => simpa [List.getLast?_cons_cons] using h2⟩
    have e := ih hl
    have hne : dval (x :: l) ≠ 0 := by
      cases l with
      | nil => simp at h2; simp [dval]; exact h2
      | cons y l =>
        intro h0
        have : dval (y :: l) = 0 := by simp only [dval] at h0 ⊢; omega
        rw [this, decL_zero] at e; cases e
    rw [decL_pos hne]
    have e1 : dval (x :: l) % 10 = x := by simp only [dval]; omega
    have e2 : dval (x :: l) / 10 = dval l := by simp only [dval]; omega
    rw [e1, e2, e]
theorem dval_append (l m : List Nat) : dval (l ++ m) = dval l + 10 ^ l.length * dval m := by
  induction l with
  | nil => simp [dval]
  | cons x l ih => simp only [List.cons_append, dval, ih, List.length_cons, Nat.pow_succ]; grind
theorem dval_snoc (l : List Nat) (x : Nat) : dval (l ++ [x]) = dval l + 10 ^ l.length * x := by
  rw [dval_append]; simp [dval]
theorem dval_lt (l : List Nat) (h : ∀ x ∈ l, x < 10) : dval l < 10 ^ l.length := by
  induction l with
  | nil => simp [dval]
  | cons x l ih =>
    have h1 := h x (by simp)
    have h2 := ih (fun y hy => h y (by simp [hy]))
    simp only [dval, List.length_cons, Nat.pow_succ]; omega
theorem dval_zeros (n : Nat) : dval (List.replicate n 0) = 0 := by
  induction n with
  | zero => rfl
  | succ n ih => simp [List.replicate_succ, dval, ih]
theorem dval_ge (l : List Nat) (h : Dig l) (hne : l ≠ []) : 10 ^ (l.length - 1) ≤ dval l := by
  obtain ⟨h1, h2⟩ := h
  obtain ⟨m, x, rfl⟩ : ∃ m x, l = m ++ [x] := ⟨l.dropLast, l.getLast hne, (List.dropLast_concat_getLast hne).symm⟩
  rw [List.getLast?_concat] at h2
  rw [dval_snoc]
  have hx : 1 ≤ x := by
    rcases Nat.eq_zero_or_pos x with rfl | h
    · exact absurd rfl h2
    · exact h
  have := Nat.mul_le_mul_left (10 ^ m.length) hx
  simp; omega
theorem decL_len_le (n k : Nat) : (decL n).length ≤ k ↔ n < 10 ^ k := by
  constructor
  · intro h
    have h1 := dval_lt (decL n) (dig_decL n).1
    rw [dval_decL] at h1
    exact Nat.lt_of_lt_of_le h1 (Nat.pow_le_pow_right (by omega) h)
  · intro h
    by_cases hne : decL n = []
    · rw [hne]; simp
    · have h1 := dval_ge (decL n) (dig_decL n) hne
      rw [dval_decL] at h1
      have h2 : 10 ^ ((decL n).length - 1) < 10 ^ k := Nat.lt_of_le_of_lt h1 h
      have h3 := (Nat.pow_lt_pow_iff_right (a := 10) (by omega)).1 h2
      omega
/-- The digits of a number, the last one first; at least one. -/
def decN (n : Nat) : List Nat := if n = 0 then [0] else decL n
theorem decN_ne (n : Nat) : decN n ≠ [] := by
  unfold decN; split
  · simp
  · rename_i h; rw [decL_pos h]; simp
theorem decN_lt (n : Nat) : ∀ x ∈ decN n, x < 10 := by
  unfold decN; split
  · simp
  · exact (dig_decL n).1
theorem dval_decN (n : Nat) : dval (decN n) = n := by
  unfold decN; split
  · simp_all [dval]
  · exact dval_decL n
theorem decN_inj {m n : Nat} (h : decN m = decN n) : m = n := by rw [← dval_decN m, h, dval_decN]
theorem decN_len_le (n k : Nat) (hk : 1 ≤ k) : (decN n).length ≤ k ↔ n < 10 ^ k := by
  unfold decN; split
  · rename_i h; subst h; simp; exact ⟨fun _ => Nat.pow_pos (by omega), fun _ => hk⟩
  · exact decL_len_le n k
/-- A byte of a digit. -/
def dgB (d : Nat) : UInt8 := UInt8.ofNat (48 + d)
theorem dgB_toNat {d : Nat} (h : d < 10) : (dgB d).toNat = 48 + d := by unfold dgB; simp [UInt8.toNat_ofNat']; omega
theorem dgB_inj {a b : Nat} (ha : a < 10) (hb : b < 10) (h : dgB a = dgB b) : a = b := by
  have := congrArg UInt8.toNat h
  rw [dgB_toNat ha, dgB_toNat hb] at this; omega
theorem dgB_of {c : UInt8} (h1 : 48 ≤ c.toNat) (h2 : c.toNat ≤ 57) : dgB (c.toNat - 48) = c := by
  apply UInt8.toNat_inj.1
  rw [dgB_toNat (by omega)]; omega
/-- The text of a number. -/
def txtN (n : Nat) : List UInt8 := (decN n).reverse.map dgB
/-- The text of an integer. -/
def txtZ (z : Int) : List UInt8 := if z < 0 then 45 :: txtN z.natAbs else txtN z.natAbs
theorem txtN_ne (n : Nat) : txtN n ≠ [] := by unfold txtN; simp [decN_ne]
theorem txtN_dig (n : Nat) : ∀ c ∈ txtN n, 48 ≤ c.toNat ∧ c.toNat ≤ 57 := by
  intro c hc
  unfold txtN at hc
  obtain ⟨d, hd, rfl⟩ := List.mem_map.1 hc
  have := decN_lt n d (by simpa using hd)
  rw [dgB_toNat this]; omega
theorem txtN_len (n : Nat) : (txtN n).length = (decN n).length := by simp [txtN]
/-- Digits of bytes, the last one first. -/
def undig (l : List UInt8) : List Nat := l.reverse.map fun c => c.toNat - 48
theorem undig_txtN (n : Nat) : undig (txtN n) = decN n := by
  unfold undig txtN
  rw [List.map_reverse, List.map_map, ← List.map_reverse, List.reverse_reverse]
  conv => rhs; rw [← List.map_id (decN n)]
  refine List.map_congr_left fun d hd => ?_
  have := decN_lt n d hd
  simp only [Function.comp_apply, id_eq]; rw [dgB_toNat this]; omega
/-- Canonical texts of numbers. -/
def CanN (l : List UInt8) : Prop := l ≠ [] ∧ (∀ c ∈ l, 48 ≤ c.toNat ∧ c.toNat ≤ 57) ∧ (l.head? = some 48 → l.length = 1)
theorem map_dgB_undig (l : List UInt8) (h : ∀ c ∈ l, 48 ≤ c.toNat ∧ c.toNat ≤ 57) : (undig l).reverse.map dgB = l := by
  unfold undig
  rw [← List.map_reverse, List.reverse_reverse, List.map_map]
  conv => rhs; rw [← List.map_id l]
  refine List.map_congr_left fun c hc => ?_
  have := h c hc
  exact dgB_of this.1 this.2
theorem undig_lt (l : List UInt8) (h : ∀ c ∈ l, 48 ≤ c.toNat ∧ c.toNat ≤ 57) : ∀ x ∈ undig l, x < 10 := by
  intro x hx
  unfold undig at hx
  obtain ⟨c, hc, rfl⟩ := List.mem_map.1 hx
  have := h c (by simpa using hc)
  omega
theorem canN_txtN (n : Nat) : CanN (txtN n) := by
  refine ⟨txtN_ne n, txtN_dig n, fun h => ?_⟩
  rw [txtN_len]
  unfold txtN at h
  rw [List.head?_map, List.head?_reverse] at h
  unfold decN at h ⊢
  split
  · rfl
  · rename_i hn
    rw [if_neg hn] at h
    have h2 := (dig_decL n).2
    cases e : (decL n).getLast? with
    | none => rw [e] at h; simp at h
    | some d =>
      rw [e] at h h2
      have hd : d < 10 := (dig_decL n).1 d (List.mem_of_getLast? e)
      simp at h
      have := dgB_toNat hd
      rw [h] at this
      exfalso; apply h2
      have : d = 0 := by
        have h48 : (48 : UInt8).toNat = 48 := rfl
        omega
      rw [this]
theorem txtN_undig (l : List UInt8) (h : CanN l) : txtN (dval (undig l)) = l := by
  obtain ⟨h1, h2, h3⟩ := h
  have e : decN (dval (undig l)) = undig l := by
    by_cases h0 : l.head? = some 48
    · have hl := h3 h0
      match l, hl with
      | [c], _ =>
        simp at h0; subst h0; rfl
    · have hD : Dig (undig l) := by
        refine ⟨undig_lt l h2, ?_⟩
        unfold undig
        cases l with
        | nil => simp
        | cons c l =>
          have := h2 c (by simp)
          simp only [List.head?_cons, Option.some.injEq] at h0
          simp only [List.reverse_cons, List.map_append, List.map_cons, List.map_nil, List.getLast?_concat, ne_eq, Option.some.injEq]
          intro hc
          apply h0
          apply UInt8.toNat_inj.1
          show c.toNat = 48
          omega
      unfold decN
      have hne : dval (undig l) ≠ 0 := by
        intro h0'
        have := decL_dval _ hD
        rw [h0', decL_zero] at this
        unfold undig at this
        cases l with
        | nil => exact h1 rfl
        | cons c l => simp at this
      rw [if_neg hne, decL_dval _ hD]
  unfold txtN
  rw [e, map_dgB_undig l h2]
/-- Reading a canonical number. -/
def rdN (l : List UInt8) : Option Nat := if (!l.isEmpty && l.all (fun c => 48 ≤ c.toNat && c.toNat ≤ 57) && (l.head? != some 48 || l.length == 1)) = true then some (dval (undig l)) else none
theorem rdN_test (l : List UInt8) : (!l.isEmpty && l.all (fun c => 48 ≤ c.toNat && c.toNat ≤ 57) && (l.head? != some 48 || l.length == 1)) = true ↔ CanN l := by
  unfold CanN
  simp only [Bool.and_eq_true, Bool.not_eq_true', List.isEmpty_eq_false_iff, List.all_eq_true, decide_eq_true_eq, Bool.or_eq_true, bne_iff_ne, ne_eq, beq_iff_eq]
  constructor
  · rintro ⟨⟨a, b⟩, c⟩; exact ⟨a, b, fun h => c.resolve_left (fun x => x h)⟩
  · rintro ⟨a, b, c⟩; exact ⟨⟨a, b⟩, Decidable.or_iff_not_imp_left.2 (fun h => c (Decidable.not_not.1 h))⟩
theorem rdN_some {l : List UInt8} {n : Nat} (h : rdN l = some n) : l = txtN n := by
  unfold rdN at h
  split at h
  · rename_i hc
    injection h with h; subst h
    exact (txtN_undig l ((rdN_test l).1 hc)).symm
  · cases h
theorem rdN_txtN (n : Nat) : rdN (txtN n) = some n := by
  unfold rdN
  rw [if_pos ((rdN_test _).2 (canN_txtN n)), undig_txtN, dval_decN]
theorem rdN_none {l : List UInt8} (h : ¬ CanN l) : rdN l = none := by
  unfold rdN
  rw [if_neg (fun hc => h ((rdN_test l).1 hc))]
theorem txtN_inj {m n : Nat} (h : txtN m = txtN n) : m = n := by
  have := rdN_txtN m
  rw [h, rdN_txtN] at this
  injection this with this; exact this.symm
/-- Reading a canonical integer. -/
def rdZ (l : List UInt8) : Option Int :=
  if l.head? = some 45 then (match rdN l.tail with | some (n + 1) => some (-(n + 1 : Int)) | _ => none) else (rdN l).map fun n => (n : Int)
theorem txtN_head (n : Nat) : (txtN n).head? ≠ some 45 := by
  intro h
  have : (45 : UInt8) ∈ txtN n := List.mem_of_head? h
  have := txtN_dig n _ this
  have h45 : (45 : UInt8).toNat = 45 := rfl
  omega
theorem rdZ_txtZ (z : Int) : rdZ (txtZ z) = some z := by
  unfold txtZ
  split
  · rename_i h
    unfold rdZ
    simp only [List.head?_cons, if_true, List.tail_cons, rdN_txtN]
    obtain ⟨k, hk⟩ : ∃ k, z.natAbs = k + 1 := ⟨z.natAbs - 1, by omega⟩
    rw [hk]
    simp; omega
  · rename_i h
    unfold rdZ
    rw [if_neg (txtN_head _), rdN_txtN]
    simp; omega
theorem rdZ_some {l : List UInt8} {z : Int} (h : rdZ l = some z) : l = txtZ z := by
  unfold rdZ at h
  split at h
  · rename_i hh
    cases l with
    | nil => cases hh
    | cons c l =>
      simp at hh; subst hh
      simp only [List.tail_cons] at h
      split at h
      · rename_i n hn
        injection h with h; subst h
        have := rdN_some hn
        unfold txtZ
        rw [if_pos (by omega), this]
        congr 2
      · cases h
  · cases e : rdN l with
    | none => rw [e] at h; cases h
    | some n =>
      rw [e] at h
      simp at h; subst h
      have := rdN_some e
      unfold txtZ
      rw [if_neg (by omega), this]; rfl
theorem txtZ_inj {a b : Int} (h : txtZ a = txtZ b) : a = b := by
  have := rdZ_txtZ a
  rw [h, rdZ_txtZ] at this
  injection this with this; exact this.symm
theorem dval_split (l : List Nat) (k : Nat) : dval l = dval (l.take k) + 10 ^ k * dval (l.drop k) := by
  induction l generalizing k with
  | nil => simp [dval]
  | cons x l ih =>
    cases k with
    | zero => simp [dval]
    | succ k => simp only [List.take_succ_cons, List.drop_succ_cons, dval, ih k, Nat.pow_succ]; grind
theorem dval_drop (l : List Nat) (k : Nat) : dval (l.drop k) = l.getD k 0 + 10 * dval (l.drop (k + 1)) := by
  induction l generalizing k with
  | nil => simp [dval]
  | cons x l ih =>
    cases k with
    | zero => simp [dval]
    | succ k => simpa using ih k
theorem dval_take_succ (l : List Nat) (k : Nat) : dval (l.take (k + 1)) = dval (l.take k) + 10 ^ k * l.getD k 0 := by
  have h1 := dval_split l k
  have h2 := dval_split l (k + 1)
  rw [dval_drop l k, Nat.mul_add] at h1
  rw [Nat.pow_succ, Nat.mul_assoc] at h2
  omega
theorem digD_lt (l : List Nat) (k : Nat) (h : ∀ x ∈ l, x < 10) : l.getD k 0 < 10 := by
  rw [List.getD_eq_getElem?_getD]
  by_cases hk : k < l.length
  · rw [List.getElem?_eq_getElem hk]; exact h _ (List.getElem_mem hk)
  · rw [List.getElem?_eq_none (by omega)]; simp
theorem dval_ext (a b : List Nat) (h : ∀ j, a.getD j 0 = b.getD j 0) : dval a = dval b := by
  induction a generalizing b with
  | nil =>
    induction b with
    | nil => rfl
    | cons y b ihb =>
      have h0 := h 0
      have := ihb (fun j => by have := h (j + 1); simpa using this)
      simp at h0
      simp only [dval] at this ⊢; omega
  | cons x a ih =>
    cases b with
    | nil =>
      have h0 := h 0
      have := ih [] (fun j => by have := h (j + 1); simpa using this)
      simp at h0
      simp only [dval] at this ⊢; omega
    | cons y b =>
      have h0 := h 0
      have := ih b (fun j => by have := h (j + 1); simpa using this)
      simp at h0
      simp only [dval, this, h0]
theorem getD_drop (l : List Nat) (k j : Nat) : (l.drop k).getD j 0 = l.getD (k + j) 0 := by
  rw [List.getD_eq_getElem?_getD, List.getElem?_drop, List.getD_eq_getElem?_getD]
theorem dcmp_top (a b : List Nat) (i : Nat) (ha : ∀ x ∈ a, x < 10) (he : ∀ j, i < j → a.getD j 0 = b.getD j 0) (h : a.getD i 0 < b.getD i 0) : dval a < dval b := by
  have e : dval (a.drop (i + 1)) = dval (b.drop (i + 1)) := dval_ext _ _ fun j => by rw [getD_drop, getD_drop]; exact he _ (by omega)
  have h1 := dval_split a i
  have h2 := dval_split b i
  have h3 := dval_lt (a.take i) (fun x hx => ha x (List.mem_of_mem_take hx))
  have h4 : 10 ^ (a.take i).length ≤ 10 ^ i := Nat.pow_le_pow_right (by omega) (List.length_take_le _ _)
  rw [dval_drop a i, e] at h1
  rw [dval_drop b i] at h2
  have h5 : 10 ^ i * (a.getD i 0 + 10 * dval (b.drop (i + 1)) + 1) ≤ 10 ^ i * (b.getD i 0 + 10 * dval (b.drop (i + 1))) := Nat.mul_le_mul_left _ (by omega)
  rw [Nat.mul_add _ _ 1, Nat.mul_one] at h5
  omega
/-- Comparing numbers. -/
def cmpN (a b : Nat) : Int := if a < b then -1 else if b < a then 1 else 0
theorem cmpN_lt {a b : Nat} (h : a < b) : cmpN a b = -1 := by unfold cmpN; rw [if_pos h]
theorem cmpN_gt {a b : Nat} (h : b < a) : cmpN a b = 1 := by unfold cmpN; rw [if_neg (by omega), if_pos h]
theorem cmpN_eq {a b : Nat} (h : a = b) : cmpN a b = 0 := by unfold cmpN; rw [if_neg (by omega), if_neg (by omega)]
/-- The reference's subtraction, after k digits. -/
def DMinusAt (a b out : List Nat) (k borrow : Nat) : Prop :=
  out.length = k ∧ (∀ x ∈ out, x < 10) ∧ borrow ≤ 1 ∧ dval out + dval (b.take k) = dval (a.take k) + 10 ^ k * borrow
theorem dminus_start (a b : List Nat) : DMinusAt a b [] 0 0 := by simp [DMinusAt, dval]
theorem dminus_step0 (a b out : List Nat) (k borrow : Nat) (ha : ∀ x ∈ a, x < 10) (h : DMinusAt a b out k borrow) (hle : b.getD k 0 + borrow ≤ a.getD k 0) :
    DMinusAt a b (out ++ [a.getD k 0 - b.getD k 0 - borrow]) (k + 1) 0 := by
  obtain ⟨h1, h2, h3, h5⟩ := h
  have h6 : dval (out ++ [a.getD k 0 - b.getD k 0 - borrow]) + dval (b.take (k + 1)) = dval (a.take (k + 1)) := by
    rw [dval_snoc, dval_take_succ, dval_take_succ, h1]
    obtain ⟨d, hd⟩ : ∃ d, a.getD k 0 = d + b.getD k 0 + borrow := ⟨a.getD k 0 - b.getD k 0 - borrow, by omega⟩
    rw [hd, show d + b.getD k 0 + borrow - b.getD k 0 - borrow = d by omega]
    generalize dval out = o at *
    generalize dval (b.take k) = B at *
    generalize dval (a.take k) = A at *
    generalize b.getD k 0 = y at *
    generalize 10 ^ k = P at *
    grind
  refine ⟨by simp [h1], ?_, by omega, by simpa using h6⟩
  intro x hx
  rcases List.mem_append.1 hx with hx | hx
  · exact h2 x hx
  · have := digD_lt a k ha
    have := List.mem_singleton.1 hx; omega
theorem dminus_step1 (a b out : List Nat) (k borrow : Nat) (hb : ∀ x ∈ b, x < 10) (h : DMinusAt a b out k borrow) (hle : a.getD k 0 < b.getD k 0 + borrow) :
    DMinusAt a b (out ++ [a.getD k 0 + 10 - b.getD k 0 - borrow]) (k + 1) 1 := by
  obtain ⟨h1, h2, h3, h5⟩ := h
  have hb' := digD_lt b k hb
  have h6 : dval (out ++ [a.getD k 0 + 10 - b.getD k 0 - borrow]) + dval (b.take (k + 1)) = dval (a.take (k + 1)) + 10 ^ (k + 1) * 1 := by
    rw [dval_snoc, dval_take_succ, dval_take_succ, h1]
    obtain ⟨d, hd⟩ : ∃ d, a.getD k 0 + 10 = d + b.getD k 0 + borrow := ⟨a.getD k 0 + 10 - b.getD k 0 - borrow, by omega⟩
    rw [hd, show d + b.getD k 0 + borrow - b.getD k 0 - borrow = d by omega, Nat.pow_succ]
    generalize dval out = o at *
    generalize dval (b.take k) = B at *
    generalize dval (a.take k) = A at *
    generalize b.getD k 0 = y at *
    generalize a.getD k 0 = x at *
    generalize 10 ^ k = P at *
    grind
  refine ⟨by simp [h1], ?_, by omega, by simpa using h6⟩
  intro x hx
  rcases List.mem_append.1 hx with hx | hx
  · exact h2 x hx
  · have := List.mem_singleton.1 hx; omega
theorem dval_high (l : List Nat) (n : Nat) (h : dval l < 10 ^ n) : dval (l.take n) = dval l ∧ dval (l.drop n) = 0 := by
  have h1 := dval_split l n
  have h2 : dval (l.drop n) = 0 := by
    rcases Nat.eq_zero_or_pos (dval (l.drop n)) with h0 | h0
    · exact h0
    · have := Nat.mul_le_mul_left (10 ^ n) h0
      omega
  rw [h2] at h1
  exact ⟨by omega, h2⟩
theorem dminus_end (a b out : List Nat) (borrow : Nat) (ha : ∀ x ∈ a, x < 10) (hv : dval b ≤ dval a) (h : DMinusAt a b out a.length borrow) : dval out = dval a - dval b := by
  obtain ⟨h1, h2, h3, h5⟩ := h
  have ha' := dval_lt a ha
  have ho := dval_lt out h2
  rw [h1] at ho
  have hb := (dval_high b a.length (by omega)).1
  rw [hb, List.take_of_length_le (Nat.le_refl _)] at h5
  have : borrow = 0 := by
    rcases Nat.eq_zero_or_pos borrow with h0 | h0
    · exact h0
    · have hb1 : borrow = 1 := by omega
      subst hb1; omega
  subst this
  omega
/-- The reference's addition, after k digits. -/
def DPlusAt (a b out : List Nat) (k carry : Nat) : Prop :=
  out.length = k ∧ (∀ x ∈ out, x < 10) ∧ carry ≤ 1 ∧ dval out + 10 ^ k * carry = dval (a.take k) + dval (b.take k)
theorem dplus_start (a b : List Nat) : DPlusAt a b [] 0 0 := by simp [DPlusAt, dval]
theorem dplus_step (a b out : List Nat) (k carry : Nat) (ha : ∀ x ∈ a, x < 10) (hb : ∀ x ∈ b, x < 10) (h : DPlusAt a b out k carry) :
    DPlusAt a b (out ++ [(a.getD k 0 + b.getD k 0 + carry) % 10]) (k + 1) ((a.getD k 0 + b.getD k 0 + carry) / 10) := by
  obtain ⟨h1, h2, h3, h5⟩ := h
  have ha' := digD_lt a k ha
  have hb' := digD_lt b k hb
  refine ⟨by simp [h1], ?_, by omega, ?_⟩
  · intro x hx
    rcases List.mem_append.1 hx with hx | hx
    · exact h2 x hx
    · simp at hx; omega
  · rw [dval_snoc, dval_take_succ, dval_take_succ, h1, Nat.pow_succ]
    have e := Nat.div_add_mod (a.getD k 0 + b.getD k 0 + carry) 10
    generalize (a.getD k 0 + b.getD k 0 + carry) / 10 = q at *
    generalize (a.getD k 0 + b.getD k 0 + carry) % 10 = r at *
    generalize dval out = o at *
    generalize dval (b.take k) = B at *
    generalize dval (a.take k) = A at *
    generalize b.getD k 0 = y at *
    generalize a.getD k 0 = x at *
    generalize 10 ^ k = P at *
    grind
theorem dplus_end (a b out : List Nat) (n carry : Nat) (ha : ∀ x ∈ a, x < 10) (hb : ∀ x ∈ b, x < 10) (hn1 : a.length < n) (hn2 : b.length < n) (h : DPlusAt a b out n carry) : dval out = dval a + dval b := by
  obtain ⟨h1, h2, h3, h5⟩ := h
  rw [List.take_of_length_le (by omega), List.take_of_length_le (by omega)] at h5
  have h6 := dval_lt a ha
  have h7 := dval_lt b hb
  have h8 : 10 ^ a.length ≤ 10 ^ (n - 1) := Nat.pow_le_pow_right (by omega) (by omega)
  have h9 : 10 ^ b.length ≤ 10 ^ (n - 1) := Nat.pow_le_pow_right (by omega) (by omega)
  have h10 : 10 ^ n = 10 ^ (n - 1) * 10 := by rw [← Nat.pow_succ]; congr 1; omega
  have : carry = 0 := by
    rcases Nat.eq_zero_or_pos carry with h0 | h0
    · exact h0
    · have hb1 : carry = 1 := by omega
      subst hb1; omega
  subst this
  omega
theorem dval_set (l : List Nat) (k d : Nat) (h : k < l.length) : dval (l.set k d) + 10 ^ k * l.getD k 0 = dval l + 10 ^ k * d := by
  induction l generalizing k with
  | nil => simp at h
  | cons x l ih =>
    cases k with
    | zero => simp [dval]; omega
    | succ k =>
      have := ih k (by simpa using h)
      simp only [List.set_cons_succ, dval, List.getD_cons_succ, Nat.pow_succ]
      generalize dval (l.set k d) = A at *
      generalize dval l = B at *
      generalize l.getD k 0 = y at *
      generalize 10 ^ k = P at *
      grind
/-- The reference's division: the places from i on are done. -/
def DDivAt (a b q r : List Nat) (i : Nat) : Prop :=
  q.length = a.length ∧ (∀ x ∈ q, x < 10) ∧ (∀ x ∈ r, x < 10) ∧ dval r < dval b ∧ (∀ j, j < i → q.getD j 0 = 0) ∧ dval (a.drop i) = dval b * dval (q.drop i) + dval r
/-- .. within place i: c times the divisor has been taken away. -/
def DDivIn (a b q r : List Nat) (i c : Nat) : Prop :=
  q.length = a.length ∧ (∀ x ∈ q, x < 10) ∧ (∀ x ∈ r, x < 10) ∧ (∀ j, j < i → q.getD j 0 = 0) ∧ q.getD i 0 = c ∧ dval b * c + dval r < 10 * dval b ∧ dval (a.drop i) = dval b * dval (q.drop i) + dval r
theorem ddiv_start (a b : List Nat) (hb : 0 < dval b) : DDivAt a b (List.replicate a.length 0) [] a.length := by
  refine ⟨by simp, ?_, by simp, by simpa [dval] using hb, ?_, by simp [dval]⟩
  · intro x hx; rw [List.mem_replicate] at hx; omega
  · intro j hj; rw [List.getD_eq_getElem?_getD, List.getElem?_replicate]; simp [hj]
theorem ddiv_in (a b q r : List Nat) (i : Nat) (ha : ∀ x ∈ a, x < 10) (h : DDivAt a b q r (i + 1)) : DDivIn a b q (a.getD i 0 :: r) i 0 := by
  obtain ⟨h1, h2, h3, h4, h5, h6⟩ := h
  have h7 := digD_lt a i ha
  have h8 := h5 i (by omega)
  refine ⟨h1, h2, ?_, fun j hj => h5 j (by omega), h8, ?_, ?_⟩
  · intro x hx
    rcases List.mem_cons.1 hx with rfl | hx
    · exact h7
    · exact h3 x hx
  · simp only [dval]; omega
  · rw [dval_drop a i, dval_drop q i, h8, h6]
    simp only [dval]
    generalize dval (q.drop (i + 1)) = Q at *
    generalize dval r = R at *
    generalize dval b = V at *
    grind
theorem ddiv_cut (a b q r : List Nat) (i c n : Nat) (hn : dval b < 10 ^ n) (h : DDivIn a b q r i c) : DDivIn a b q (r.take (n + 1)) i c := by
  obtain ⟨h1, h2, h3, h4, h5, h6, h7⟩ := h
  have e := (dval_high r (n + 1) (by rw [Nat.pow_succ]; omega)).1
  exact ⟨h1, h2, fun x hx => h3 x (List.mem_of_mem_take hx), h4, h5, by rw [e]; exact h6, by rw [e]; exact h7⟩
theorem ddiv_sub (a b q r r' : List Nat) (i c : Nat) (hi : i < a.length) (hle : dval b ≤ dval r) (hr : ∀ x ∈ r', x < 10) (hv : dval r' = dval r - dval b) (h : DDivIn a b q r i c) : DDivIn a b (q.set i (c + 1)) r' i (c + 1) := by
  obtain ⟨h1, h2, h3, h4, h5, h6, h7⟩ := h
  have e := dval_drop q i
  have e2 := dval_drop (q.set i (c + 1)) i
  have e3 : (q.set i (c + 1)).getD i 0 = c + 1 := by rw [List.getD_eq_getElem?_getD, List.getElem?_set, if_pos rfl, if_pos (by omega)]; rfl
  have e4 : (q.set i (c + 1)).drop (i + 1) = q.drop (i + 1) := by rw [List.drop_set]; simp
  rw [e3, e4] at e2
  have h8 : dval (a.drop i) = dval b * dval ((q.set i (c + 1)).drop i) + dval r' := by
    rw [e2, h7, e, h5, hv]
    obtain ⟨t, ht⟩ : ∃ t, dval r = dval b + t := ⟨dval r - dval b, by omega⟩
    rw [ht, show dval b + t - dval b = t by omega]
    generalize dval (q.drop (i + 1)) = Q at *
    generalize dval b = V at *
    grind
  have h9 : dval b * (c + 1) + dval r' < 10 * dval b := by rw [Nat.mul_add, Nat.mul_one, hv]; omega
  have hc : c + 1 < 10 := by
    rcases Nat.lt_or_ge (c + 1) 10 with h | h
    · exact h
    · have := Nat.mul_le_mul_left (dval b) h
      omega
  refine ⟨by simp [h1], ?_, hr, ?_, e3, h9, h8⟩
  · intro x hx
    obtain ⟨j, hj, rfl⟩ := List.getElem_of_mem hx
    rw [List.getElem_set]
    split
    · exact hc
    · exact h2 _ (List.getElem_mem _)
  · intro j hj
    rw [List.getD_eq_getElem?_getD, List.getElem?_set_ne (by omega), ← List.getD_eq_getElem?_getD]
    exact h4 j hj
theorem ddiv_out (a b q r : List Nat) (i c : Nat) (hlt : dval r < dval b) (h : DDivIn a b q r i c) : DDivAt a b q r i := by
  obtain ⟨h1, h2, h3, h4, h5, h6, h7⟩ := h
  exact ⟨h1, h2, h3, hlt, h4, h7⟩
theorem ddiv_end (a b q r : List Nat) (h : DDivAt a b q r 0) : dval q = dval a / dval b ∧ dval r = dval a % dval b := by
  obtain ⟨h1, h2, h3, h4, h5, h6⟩ := h
  simp only [List.drop_zero] at h6
  have hb : 0 < dval b := by omega
  constructor
  · rw [h6, Nat.mul_add_div hb, Nat.div_eq_of_lt h4]; omega
  · rw [h6, Nat.mul_add_mod, Nat.mod_eq_of_lt h4]
/-- The divisor without the zeros at its end: the places from k on are zeros. -/
theorem dtrim_step (l : List Nat) (j : Nat) (h : dval (l.take (j + 1)) = dval l) (h0 : l.getD j 0 = 0) : dval (l.take j) = dval l := by
  rw [dval_take_succ, h0] at h; simpa using h
theorem dtrim_len (l : List Nat) (j : Nat) (hl : j + 1 ≤ l.length) (d : ∀ x ∈ l, x < 10) (h : dval (l.take (j + 1)) = dval l) (h0 : j = 0 ∨ l.getD j 0 ≠ 0) : j + 1 ≤ (decN (dval l)).length := by
  rcases h0 with h0 | h0
  · subst h0
    have := decN_ne (dval l)
    have := List.length_pos_iff.2 this
    omega
  · have hD : Dig (l.take (j + 1)) := by
      refine ⟨fun x hx => d x (List.mem_of_mem_take hx), ?_⟩
      rw [List.take_add_one, List.getElem?_eq_getElem (by omega)]
      simp only [Option.toList_some, List.getLast?_concat]
      rw [List.getD_eq_getElem?_getD, List.getElem?_eq_getElem (by omega)] at h0
      simpa using h0
    have e := decL_dval _ hD
    rw [h] at e
    unfold decN
    split
    · rename_i hz
      rw [hz, decL_zero] at e
      have := congrArg List.length e
      rw [List.length_take] at this
      simp at this; omega
    · rw [e, List.length_take]; omega
/-- The program's and the reference's error of an integer. -/
def chkN (m : List UInt8) : Int := match rdN m with | none => 12 | some _ => if 1000 < m.length then 14 else 0
def chkZ (l : List UInt8) : Int := if l.head? = some 45 then (if l.tail = [48] then 12 else chkN l.tail) else chkN l
theorem chkN_no {m : List UInt8} (h : ¬ CanN m) : chkN m = 12 := by unfold chkN; rw [rdN_none h]
theorem chkN_yes {m : List UInt8} (h : CanN m) : chkN m = if 1000 < m.length then 14 else 0 := by
  unfold chkN rdN; rw [if_pos ((rdN_test m).2 h)]
theorem chkN_byte {m : List UInt8} {c : UInt8} (h : c ∈ m) (h2 : ¬ (48 ≤ c.toNat ∧ c.toNat ≤ 57)) : chkN m = 12 := chkN_no fun hc => h2 (hc.2.1 c h)
theorem chkN_nil : chkN [] = 12 := chkN_no fun hc => hc.1 rfl
theorem chkN_zero {m : List UInt8} (h : m.head? = some 48) (h2 : 1 < m.length) : chkN m = 12 := chkN_no fun hc => by have := hc.2.2 h; omega
theorem chkZ_neg {l : List UInt8} (h : l.head? = some 45) (h2 : l.tail ≠ [48]) : chkZ l = chkN l.tail := by unfold chkZ; rw [if_pos h, if_neg h2]
theorem chkZ_neg0 {l : List UInt8} (h : l.head? = some 45) (h2 : l.tail = [48]) : chkZ l = 12 := by unfold chkZ; rw [if_pos h, if_pos h2]
theorem chkZ_pos {l : List UInt8} (h : l.head? ≠ some 45) : chkZ l = chkN l := by unfold chkZ; rw [if_neg h]
theorem chkZ_none {l : List UInt8} (h : rdZ l = none) : chkZ l = 12 := by
  unfold rdZ at h
  unfold chkZ
  split
  · rename_i hh
    rw [if_pos hh] at h
    split
    · rfl
    · rename_i h2
      unfold chkN
      cases e : rdN l.tail with
      | none => rfl
      | some n =>
        exfalso
        rw [e] at h
        cases n with
        | zero => exact h2 (rdN_some e)
        | succ n => simp at h
  · rename_i hh
    rw [if_neg hh] at h
    unfold chkN
    cases e : rdN l with
    | none => rfl
    | some n => rw [e] at h; simp at h
/-- More than 1000 digits. -/
def bigZ (z : Int) : Bool := decide (1000 < (decN z.natAbs).length)
theorem chkZ_txtZ (z : Int) : chkZ (txtZ z) = if bigZ z = true then 14 else 0 := by
  unfold bigZ
  by_cases hz : z < 0
  · have e : txtZ z = 45 :: txtN z.natAbs := by unfold txtZ; rw [if_pos hz]
    rw [chkZ_neg (by rw [e]; rfl) (by
      rw [e]; simp only [List.tail_cons]
      intro h
      have : txtN z.natAbs = txtN 0 := h.trans rfl
      have := txtN_inj this
      omega), e]
    simp only [List.tail_cons]
    rw [chkN_yes (canN_txtN _), txtN_len]
    simp
  · have e : txtZ z = txtN z.natAbs := by unfold txtZ; rw [if_neg hz]
    rw [e, chkZ_pos (txtN_head _), chkN_yes (canN_txtN _), txtN_len]
    simp
theorem chkZ_ok {l : List UInt8} (h : chkZ l = 0) : ∃ z, l = txtZ z ∧ bigZ z = false := by
  cases e : rdZ l with
  | none => rw [chkZ_none e] at h; cases h
  | some z =>
    have e := rdZ_some e
    subst e
    rw [chkZ_txtZ] at h
    refine ⟨z, rfl, ?_⟩
    cases hb : bigZ z with
    | false => rfl
    | true => rw [hb] at h; simp at h
/-- The base of the groups. -/
def Bs : Nat := 1000000000
theorem Bs_eq : Bs = 1000000000 := rfl
/-- The value of little-endian groups. -/
def val : List Nat → Nat
  | [] => 0
  | x :: l => x + Bs * val l
/-- Canonical groups of a number. -/
def Rep (l : List Nat) (n : Nat) : Prop := (∀ x ∈ l, x < Bs) ∧ l.getLast? ≠ some 0 ∧ val l = n
theorem val_append (l m : List Nat) : val (l ++ m) = val l + Bs ^ l.length * val m := by
  induction l with
  | nil => simp [val]
  | cons x l ih => simp only [List.cons_append, val, ih, List.length_cons, Nat.pow_succ]; rw [Nat.mul_add, ← Nat.mul_assoc, Nat.mul_comm Bs (Bs ^ l.length), Nat.add_assoc]
theorem val_snoc (l : List Nat) (x : Nat) : val (l ++ [x]) = val l + Bs ^ l.length * x := by
  rw [val_append]; simp [val]
theorem val_lt (l : List Nat) (h : ∀ x ∈ l, x < Bs) : val l < Bs ^ l.length := by
  induction l with
  | nil => simp [val]
  | cons x l ih =>
    have h1 : x < Bs := h x (by simp)
    have h2 := ih (fun y hy => h y (by simp [hy]))
    simp only [val, List.length_cons, Nat.pow_succ]
    have : Bs * val l + Bs ≤ Bs * Bs ^ l.length := by
      rw [← Nat.mul_succ]; exact Nat.mul_le_mul_left _ h2
    rw [Nat.mul_comm (Bs ^ l.length)]; omega
theorem val_zeros (n : Nat) : val (List.replicate n 0) = 0 := by
  induction n with
  | zero => rfl
  | succ n ih => simp [List.replicate_succ, val, ih]
theorem val_cons_inj (x y a b : Nat) (hx : x < Bs) (hy : y < Bs) (h : x + Bs * a = y + Bs * b) : x = y ∧ a = b := by
  have h1 : (x + Bs * a) % Bs = (y + Bs * b) % Bs := by rw [h]
  rw [Nat.add_mul_mod_self_left, Nat.add_mul_mod_self_left, Nat.mod_eq_of_lt hx, Nat.mod_eq_of_lt hy] at h1
  refine ⟨h1, ?_⟩
  rw [h1] at h
  have h2 : Bs * a = Bs * b := by omega
  exact Nat.eq_of_mul_eq_mul_left (by decide) h2
theorem last_cons (x : Nat) (l : List Nat) (h : (x :: l).getLast? ≠ some 0) (hl : l ≠ []) : l.getLast? ≠ some 0 := by
  cases l with
  | nil => exact absurd rfl hl
  | cons y l => simpa [List.getLast?_cons_cons] using h
theorem val_pos (l : List Nat) (h : l.getLast? ≠ some 0) (hl : l ≠ []) : 0 < val l := by
  induction l with
  | nil => exact absurd rfl hl
  | cons x l ih =>
    by_cases e : l = []
    · subst e; simp [val] at h ⊢; omega
    · have := ih (last_cons x l h e) e
      have h3 : 0 < Bs * val l := Nat.mul_pos (by decide) this
      simp only [val]; omega
theorem rep_zero (l : List Nat) (h : Rep l 0) : l = [] := by
  by_cases e : l = []
  · exact e
  · have := val_pos l h.2.1 e; have := h.2.2; omega
theorem rep_inj (l m : List Nat) : ∀ n, Rep l n → Rep m n → l = m := by
  induction l generalizing m with
  | nil =>
    intro n h1 h2
    have e : n = 0 := h1.2.2.symm
    subst e; exact (rep_zero m h2).symm
  | cons x l ih =>
    intro n h1 h2
    cases m with
    | nil =>
      have e : n = 0 := h2.2.2.symm
      subst e; exact rep_zero _ h1
    | cons y m =>
      have hx := h1.1 x (by simp)
      have hy := h2.1 y (by simp)
      have := val_cons_inj x y (val l) (val m) hx hy (by have a := h1.2.2; have b := h2.2.2; simp only [val] at a b; omega)
      obtain ⟨e1, e2⟩ := this
      have r1 : Rep l (val l) := by
        refine ⟨fun z hz => h1.1 z (by simp [hz]), ?_, rfl⟩
        by_cases e : l = []
        · subst e; simp
        · exact last_cons x l h1.2.1 e
      have r2 : Rep m (val l) := by
        refine ⟨fun z hz => h2.1 z (by simp [hz]), ?_, e2.symm⟩
        by_cases e : m = []
        · subst e; simp
        · exact last_cons y m h2.2.1 e
      rw [e1, ih m _ r1 r2]
theorem val_take (a : List Nat) (k : Nat) : val (a.take (k + 1)) = val (a.take k) + Bs ^ k * a.getD k 0 := by
  by_cases h : k < a.length
  · rw [List.take_succ_eq_append_getElem h, val_snoc, List.length_take, Nat.min_eq_left (by omega)]
    simp [List.getD, List.getElem?_eq_getElem h]
  · rw [List.take_of_length_le (by omega), List.take_of_length_le (by omega)]
    simp [List.getD, List.getElem?_eq_none (show a.length ≤ k by omega)]
theorem getD_lt (a : List Nat) (k : Nat) (h : ∀ x ∈ a, x < Bs) : a.getD k 0 < Bs := by
  by_cases e : k < a.length
  · simp [List.getD, List.getElem?_eq_getElem e]; exact h _ (List.getElem_mem e)
  · simp [List.getD, List.getElem?_eq_none (show a.length ≤ k by omega)]; decide
theorem val_drop (a : List Nat) (k : Nat) (h : k < a.length) : val (a.drop k) = a.getD k 0 + Bs * val (a.drop (k + 1)) := by
  rw [List.drop_eq_getElem_cons h]; simp [val, List.getD, List.getElem?_eq_getElem h]
theorem val_set (l : List Nat) (k d : Nat) (h : k < l.length) : val (l.set k d) + Bs ^ k * l.getD k 0 = val l + Bs ^ k * d := by
  induction l generalizing k with
  | nil => simp at h
  | cons x l ih =>
    cases k with
    | zero => simp [val]; omega
    | succ k =>
      have := ih k (by simpa using h)
      simp only [List.set_cons_succ, val, List.getD_cons_succ, Nat.pow_succ]
      have e1 : Bs ^ k * Bs * l.getD k 0 = Bs * (Bs ^ k * l.getD k 0) := by rw [Nat.mul_comm (Bs ^ k) Bs, Nat.mul_assoc]
      have e2 : Bs ^ k * Bs * d = Bs * (Bs ^ k * d) := by rw [Nat.mul_comm (Bs ^ k) Bs, Nat.mul_assoc]
      rw [e1, e2]
      have : Bs * (val (l.set k d) + Bs ^ k * l.getD k 0) = Bs * (val l + Bs ^ k * d) := by rw [this]
      rw [Nat.mul_add, Nat.mul_add] at this
      omega
theorem Bs_pos : 0 < Bs := by decide
/-- A loop that adds: what holds after k rounds. -/
def PlusAt (a b out : List Nat) (k carry : Nat) : Prop :=
  out.length = k ∧ (∀ x ∈ out, x < Bs) ∧ carry ≤ 1 ∧ val out + Bs ^ k * carry = val (a.take k) + val (b.take k)
theorem plus_start (a b : List Nat) : PlusAt a b [] 0 0 := by simp [PlusAt, val]
theorem plus_arith (P o A B c x y r q s : Nat) (h : o + P * c = A + B) (e : s * q + r = x + c + y) : o + P * r + P * s * q = A + P * x + (B + P * y) := by
  have h2 : P * (s * q + r) = P * (x + c + y) := by rw [e]
  simp only [Nat.mul_add, Nat.mul_assoc] at *
  omega
theorem plus_step (a b out : List Nat) (k carry : Nat) (ha : ∀ x ∈ a, x < Bs) (hb : ∀ x ∈ b, x < Bs) (h : PlusAt a b out k carry) :
    PlusAt a b (out ++ [(a.getD k 0 + carry + b.getD k 0) % Bs]) (k + 1) ((a.getD k 0 + carry + b.getD k 0) / Bs) := by
  obtain ⟨h1, h2, h3, h4⟩ := h
  have x1 := getD_lt a k ha
  have x2 := getD_lt b k hb
  have v1 := val_take a k
  have v2 := val_take b k
  have hB := Bs_eq
  refine ⟨by simp [h1], ?_, ?_, ?_⟩
  · intro z hz
    rcases List.mem_append.1 hz with hz | hz
    · exact h2 z hz
    · rw [List.mem_singleton] at hz; rw [hz]; exact Nat.mod_lt _ Bs_pos
  · have : (a.getD k 0 + carry + b.getD k 0) / Bs < 2 := Nat.div_lt_of_lt_mul (by omega)
    omega
  · rw [val_snoc, h1, v1, v2, Nat.pow_succ]
    exact plus_arith _ _ _ _ _ _ _ _ _ _ h4 (Nat.div_add_mod _ _)
theorem plus_end (a b out : List Nat) (carry : Nat) (hab : b.length ≤ a.length) (h : PlusAt a b out a.length carry) : (∀ x ∈ out ++ [carry], x < Bs) ∧ val (out ++ [carry]) = val a + val b := by
  obtain ⟨h1, h2, h3, h4⟩ := h
  have hB := Bs_eq
  refine ⟨?_, ?_⟩
  · intro z hz
    rcases List.mem_append.1 hz with hz | hz
    · exact h2 z hz
    · rw [List.mem_singleton] at hz; omega
  · rw [List.take_length, List.take_of_length_le hab] at h4
    rw [val_snoc, h1, h4]

/-- trim: zeros at the end are struck. -/
theorem trim_step (l : List Nat) (k : Nat) (hk : l.getD k 0 = 0) : val (l.take (k + 1)) = val (l.take k) := by
  rw [val_take, hk]; simp
theorem trim_end (l : List Nat) (k : Nat) (hd : ∀ x ∈ l, x < Bs) (hk : k ≤ l.length) (hl : k = 0 ∨ l.getD (k - 1) 0 ≠ 0) (hv : val (l.take k) = val l) : Rep (l.take k) (val l) := by
  refine ⟨fun x hx => hd x (List.mem_of_mem_take hx), ?_, hv⟩
  rcases hl with h | h
  · subst h; simp
  · by_cases e : k = 0
    · subst e; simp
    · rw [List.getLast?_eq_getElem?, List.length_take, Nat.min_eq_left hk, List.getElem?_take_of_lt (by omega), List.getElem?_eq_getElem (by omega)]
      have : l.getD (k - 1) 0 = l[k - 1] := by simp [List.getD, List.getElem?_eq_getElem (show k - 1 < l.length by omega)]
      rw [this] at h
      simpa using h

/-- A loop that subtracts. -/
def MinusAt (a b out : List Nat) (k borrow : Nat) : Prop :=
  out.length = k ∧ (∀ x ∈ out, x < Bs) ∧ borrow ≤ 1 ∧ val out + val (b.take k) = val (a.take k) + Bs ^ k * borrow
theorem minus_start (a b : List Nat) : MinusAt a b [] 0 0 := by simp [MinusAt, val]
theorem minus_arith (P o B A c x y d c2 s : Nat) (h : o + B = A + P * c) (e : d + y + c = x + s * c2) : o + P * d + (B + P * y) = A + P * x + P * s * c2 := by
  have h2 : P * (d + y + c) = P * (x + s * c2) := by rw [e]
  simp only [Nat.mul_add, Nat.mul_assoc] at *
  omega
theorem minus_step0 (a b out : List Nat) (k borrow : Nat) (ha : ∀ x ∈ a, x < Bs) (h : MinusAt a b out k borrow) (hle : borrow + b.getD k 0 ≤ a.getD k 0) :
    MinusAt a b (out ++ [a.getD k 0 - (borrow + b.getD k 0)]) (k + 1) 0 := by
  obtain ⟨h1, h2, h3, h4⟩ := h
  have x1 := getD_lt a k ha
  have v1 := val_take a k
  have v2 := val_take b k
  refine ⟨by simp [h1], ?_, by omega, ?_⟩
  · intro z hz
    rcases List.mem_append.1 hz with hz | hz
    · exact h2 z hz
    · rw [List.mem_singleton] at hz; omega
  · rw [val_snoc, h1, v1, v2, Nat.pow_succ]
    exact minus_arith _ _ _ _ _ _ _ _ _ _ h4 (by omega)
theorem minus_step1 (a b out : List Nat) (k borrow : Nat) (hb : ∀ x ∈ b, x < Bs) (h : MinusAt a b out k borrow) (hle : a.getD k 0 < borrow + b.getD k 0) :
    MinusAt a b (out ++ [a.getD k 0 + Bs - (borrow + b.getD k 0)]) (k + 1) 1 := by
  obtain ⟨h1, h2, h3, h4⟩ := h
  have x2 := getD_lt b k hb
  have v1 := val_take a k
  have v2 := val_take b k
  refine ⟨by simp [h1], ?_, by omega, ?_⟩
  · intro z hz
    rcases List.mem_append.1 hz with hz | hz
    · exact h2 z hz
    · rw [List.mem_singleton] at hz; omega
  · rw [val_snoc, h1, v1, v2, Nat.pow_succ]
    exact minus_arith _ _ _ _ _ _ _ _ _ _ h4 (by omega)
theorem minus_end (a b out : List Nat) (borrow : Nat) (hab : b.length ≤ a.length) (hv : val b ≤ val a) (h : MinusAt a b out a.length borrow) : val out = val a - val b := by
  obtain ⟨h1, h2, h3, h4⟩ := h
  rw [List.take_length, List.take_of_length_le hab] at h4
  have h5 := val_lt out h2
  rw [h1] at h5
  rcases Nat.eq_zero_or_pos borrow with e | e
  · subst e; omega
  · have : borrow = 1 := by omega
    subst this; omega
theorem rep_len_le (a b : List Nat) (m n : Nat) (ha : Rep a m) (hb : Rep b n) (h : n ≤ m) : b.length ≤ a.length := by
  refine Nat.le_of_not_lt fun hlt => ?_
  have h1 := val_lt a ha.1
  by_cases e : b = []
  · subst e; simp at hlt
  obtain ⟨c, x, rfl⟩ : ∃ c x, b = c ++ [x] := ⟨b.dropLast, b.getLast e, (List.dropLast_concat_getLast e).symm⟩
  have hx : x ≠ 0 := by have := hb.2.1; simpa using this
  have h2 := hb.2.2
  rw [val_snoc] at h2
  have h3 : Bs ^ a.length ≤ Bs ^ c.length := Nat.pow_le_pow_right Bs_pos (by simp at hlt; omega)
  have h4 : Bs ^ c.length * 1 ≤ Bs ^ c.length * x := Nat.mul_le_mul_left _ (by omega)
  have := ha.2.2
  omega
/-- Comparison by length. -/
theorem rep_len_lt (a b : List Nat) (m n : Nat) (ha : Rep a m) (hb : Rep b n) (h : a.length < b.length) : m < n := by
  refine Nat.lt_of_not_le fun hle => ?_
  have := rep_len_le a b m n ha hb hle
  omega
/-- Comparison from the top: the groups above i agree. -/
theorem cmp_top (a b : List Nat) (i : Nat) (hl : a.length = b.length) (hi : i < a.length) (ha : ∀ x ∈ a, x < Bs) (he : a.drop (i + 1) = b.drop (i + 1)) (h : a.getD i 0 < b.getD i 0) : val a < val b := by
  have e1 : val a = val (a.take i) + Bs ^ i * (a.getD i 0 + Bs * val (a.drop (i + 1))) := by
    conv => lhs; rw [← List.take_append_drop i a]
    rw [val_append, List.length_take, Nat.min_eq_left (by omega), val_drop a i hi]
  have e2 : val b = val (b.take i) + Bs ^ i * (b.getD i 0 + Bs * val (b.drop (i + 1))) := by
    conv => lhs; rw [← List.take_append_drop i b]
    rw [val_append, List.length_take, Nat.min_eq_left (by omega), val_drop b i (by omega)]
  have h1 := val_lt (a.take i) (fun x hx => ha x (List.mem_of_mem_take hx))
  rw [List.length_take, Nat.min_eq_left (by omega)] at h1
  rw [e1, e2, he]
  have h2 : Bs ^ i * (a.getD i 0 + Bs * val (b.drop (i + 1)) + 1) ≤ Bs ^ i * (b.getD i 0 + Bs * val (b.drop (i + 1))) := Nat.mul_le_mul_left _ (by omega)
  rw [Nat.mul_add (Bs ^ i) _ 1] at h2
  omega

/-- Multiplication: the inner loop. out: the row; i, j: the places; x: the digit of a. -/
def TimesIn (a b out : List Nat) (i j carry : Nat) : Prop :=
  out.length = a.length + b.length ∧ (∀ x ∈ out, x < Bs) ∧ carry < Bs ∧ (∀ k, i + b.length ≤ k → out.getD k 0 = 0) ∧
    val out + Bs ^ (i + j) * carry = val (a.take i) * val b + Bs ^ i * (a.getD i 0 * val (b.take j))
theorem getD_set (l : List Nat) (i k x : Nat) (hi : i < l.length) : (l.set i x).getD k 0 = if k = i then x else l.getD k 0 := by
  simp only [List.getD, List.getElem?_set]
  by_cases e : i = k
  · subst e; simp [hi]
  · rw [if_neg e, if_neg (fun h => e h.symm)]
theorem times_arith (P Q o o2 out0 A b x y B c r q s : Nat) (h : o + P * Q * c = A * b + P * (x * B)) (hs : o2 + P * Q * out0 = o + P * Q * r) (e : s * q + r = x * y + out0 + c) :
    o2 + P * Q * s * q = A * b + P * (x * (B + Q * y)) := by
  have h2 : P * Q * (s * q + r) = P * Q * (x * y + out0 + c) := by rw [e]
  have e1 : P * (x * (B + Q * y)) = P * (x * B) + P * Q * (x * y) := by
    rw [Nat.mul_add, Nat.mul_add, Nat.mul_assoc P Q, Nat.mul_left_comm x Q y]
  rw [e1]
  simp only [Nat.mul_add] at h2
  have e2 : P * Q * s * q = P * Q * (s * q) := Nat.mul_assoc _ _ _
  omega
theorem times_in_step (a b out : List Nat) (i j carry : Nat) (hi : i < a.length) (hj : j < b.length) (h : TimesIn a b out i j carry) (ha : ∀ x ∈ a, x < Bs) (hb : ∀ x ∈ b, x < Bs) :
    TimesIn a b (out.set (i + j) ((a.getD i 0 * b.getD j 0 + out.getD (i + j) 0 + carry) % Bs)) i (j + 1) ((a.getD i 0 * b.getD j 0 + out.getD (i + j) 0 + carry) / Bs) := by
  obtain ⟨h1, h2, h3, h4, h5⟩ := h
  have x1 := getD_lt a i ha
  have x2 := getD_lt b j hb
  have x3 := getD_lt out (i + j) h2
  have hset := val_set out (i + j) ((a.getD i 0 * b.getD j 0 + out.getD (i + j) 0 + carry) % Bs) (by omega)
  have hB := Bs_eq
  have hprod : a.getD i 0 * b.getD j 0 ≤ 999999999 * 999999999 := Nat.mul_le_mul (by omega) (by omega)
  refine ⟨by simpa using h1, ?_, ?_, ?_, ?_⟩
  · intro z hz
    rcases List.mem_or_eq_of_mem_set hz with hz | hz
    · exact h2 z hz
    · rw [hz]; exact Nat.mod_lt _ Bs_pos
  · exact Nat.div_lt_of_lt_mul (by rw [hB]; omega)
  · intro k hk
    rw [getD_set _ _ _ _ (by omega), if_neg (by omega)]
    exact h4 k hk
  · rw [val_take b j, ← Nat.add_assoc, Nat.pow_succ]
    rw [Nat.pow_add] at h5 hset ⊢
    exact times_arith _ _ _ _ _ _ _ _ _ _ _ _ _ _ h5 hset (Nat.div_add_mod _ _)
def TimesAt (a b out : List Nat) (i : Nat) : Prop :=
  out.length = a.length + b.length ∧ (∀ x ∈ out, x < Bs) ∧ (∀ k, i + b.length ≤ k → out.getD k 0 = 0) ∧ val out = val (a.take i) * val b
theorem times_start (a b : List Nat) : TimesAt a b (List.replicate (a.length + b.length) 0) 0 := by
  refine ⟨by simp, fun x hx => by have := List.eq_of_mem_replicate hx; subst this; exact Bs_pos, fun k _ => ?_, by rw [val_zeros]; simp [val]⟩
  simp only [List.getD, List.getElem?_replicate]
  split <;> rfl
theorem times_in_start (a b out : List Nat) (i : Nat) (h : TimesAt a b out i) : TimesIn a b out i 0 0 := by
  obtain ⟨h1, h2, h3, h4⟩ := h
  exact ⟨h1, h2, Bs_pos, h3, by simp [val, h4]⟩
theorem times_in_end (a b out : List Nat) (i carry : Nat) (hi : i < a.length) (h : TimesIn a b out i b.length carry) : TimesAt a b (out.set (i + b.length) (out.getD (i + b.length) 0 + carry)) (i + 1) := by
  obtain ⟨h1, h2, h3, h4, h5⟩ := h
  have h0 := h4 (i + b.length) (Nat.le_refl _)
  have hset := val_set out (i + b.length) (out.getD (i + b.length) 0 + carry) (by omega)
  rw [h0] at hset ⊢
  refine ⟨by simpa using h1, ?_, ?_, ?_⟩
  · intro z hz
    rcases List.mem_or_eq_of_mem_set hz with hz | hz
    · exact h2 z hz
    · omega
  · intro k hk
    rw [getD_set _ _ _ _ (by omega), if_neg (by omega)]
    exact h4 k (by omega)
  · rw [val_take a i, Nat.add_mul]
    rw [List.take_length] at h5
    rw [Nat.mul_assoc]
    simp only [Nat.mul_zero, Nat.add_zero, Nat.zero_add] at hset ⊢
    omega
theorem times_end (a b out : List Nat) (h : TimesAt a b out a.length) : (∀ x ∈ out, x < Bs) ∧ val out = val a * val b := by
  obtain ⟨_, h2, _, h4⟩ := h
  rw [List.take_length] at h4
  exact ⟨h2, h4⟩

/-- Division by one group, from the top: the places from i on are done. -/
def ShortAt (a q : List Nat) (d i rest : Nat) : Prop :=
  q.length = a.length ∧ (∀ x ∈ q, x < Bs) ∧ rest < d ∧ val (a.drop i) = d * val (q.drop i) + rest
theorem short_start (a : List Nat) (d : Nat) (hd : 0 < d) : ShortAt a (List.replicate a.length 0) d a.length 0 := by
  refine ⟨by simp, fun x hx => by have := List.eq_of_mem_replicate hx; subst this; exact Bs_pos, hd, by simp [val]⟩
theorem short_arith (A d Q r s x q m : Nat) (h : A = d * Q + r) (e : d * q + m = r * s + x) : x + s * A = d * (q + s * Q) + m := by
  subst h
  have : s * (d * Q + r) = d * (s * Q) + r * s := by rw [Nat.mul_add, Nat.mul_left_comm, Nat.mul_comm s r]
  rw [this, Nat.mul_add]; omega
theorem short_step (a q : List Nat) (d i rest : Nat) (hi : i < a.length) (ha : ∀ x ∈ a, x < Bs) (h : ShortAt a q d (i + 1) rest) :
    ShortAt a (q.set i ((rest * Bs + a.getD i 0) / d)) d i ((rest * Bs + a.getD i 0) % d) := by
  obtain ⟨h1, h2, h3, h4⟩ := h
  have x1 := getD_lt a i ha
  have hd : 0 < d := by omega
  refine ⟨by simpa using h1, ?_, Nat.mod_lt _ hd, ?_⟩
  · intro z hz
    rcases List.mem_or_eq_of_mem_set hz with hz | hz
    · exact h2 z hz
    · rw [hz]
      refine Nat.div_lt_of_lt_mul ?_
      have : (rest + 1) * Bs ≤ d * Bs := Nat.mul_le_mul_right _ (by omega)
      rw [Nat.add_mul] at this
      omega
  · rw [val_drop a i hi, val_drop (q.set i _) i (by simpa using (by omega : i < q.length)), getD_set _ _ _ _ (by omega), if_pos rfl, List.drop_set_of_lt (by omega)]
    exact short_arith _ d _ rest Bs _ _ _ h4 (Nat.div_add_mod _ _)
theorem short_end (a q : List Nat) (d rest : Nat) (h : ShortAt a q d 0 rest) : val q = val a / d ∧ rest = val a % d := by
  obtain ⟨h1, h2, h3, h4⟩ := h
  simp only [List.drop_zero] at h4
  rw [h4]
  constructor
  · rw [Nat.mul_add_div (by omega), Nat.div_eq_of_lt h3]; omega
  · rw [Nat.mul_add_mod, Nat.mod_eq_of_lt h3]

/-! ### long division -/
/-- The guess of a digit. -/
def gss (t u v y z : Nat) : Nat := min (((t * Bs + u) * Bs + v) / (y * Bs + z)) (Bs - 1)
theorem gss_le {q t u v y z : Nat} (hy : 0 < y) (hq : q < Bs) (h : q * (y * Bs + z) ≤ (t * Bs + u) * Bs + v) : q ≤ gss t u v y z := by
  unfold gss
  have h1 : q ≤ ((t * Bs + u) * Bs + v) / (y * Bs + z) := by
    rw [Nat.le_div_iff_mul_le (by have := Nat.mul_pos hy Bs_pos; omega)]; exact h
  omega
theorem gss_lt (t u v y z : Nat) : gss t u v y z < Bs := by unfold gss; have := Bs_pos; omega
theorem gss_mul (t u v y z : Nat) : gss t u v y z * (y * Bs + z) ≤ (t * Bs + u) * Bs + v := by
  have h1 : gss t u v y z ≤ ((t * Bs + u) * Bs + v) / (y * Bs + z) := by unfold gss; omega
  exact Nat.le_trans (Nat.mul_le_mul_right _ h1) (Nat.div_mul_le_self _ _)
/-- What the loop of the guess keeps: top = q y + r, and the guess is not below the digit. -/
theorem guess_down {t u v y z q r : Nat} (htop : t * Bs + u = q * y + r) (hc : Bs ≤ q ∨ r * Bs + v < q * z) : gss t u v y z < q := by
  rcases hc with h | h
  · have := gss_lt t u v y z; omega
  · refine Nat.lt_of_not_le fun hle => ?_
    have h1 := gss_mul t u v y z
    have h2 : q * (y * Bs + z) ≤ gss t u v y z * (y * Bs + z) := Nat.mul_le_mul_right _ hle
    rw [htop] at h1
    have e1 : q * (y * Bs + z) = q * y * Bs + q * z := by rw [Nat.mul_add, Nat.mul_assoc]
    have e2 : (q * y + r) * Bs = q * y * Bs + r * Bs := Nat.add_mul _ _ _
    omega
theorem guess_up {t u v y z q r : Nat} (hy : 0 < y) (htop : t * Bs + u = q * y + r) (hq : q < Bs) (hc : q * z ≤ r * Bs + v) : q ≤ gss t u v y z := by
  refine gss_le hy hq ?_
  rw [htop]
  have e1 : q * (y * Bs + z) = q * y * Bs + q * z := by rw [Nat.mul_add, Nat.mul_assoc]
  have e2 : (q * y + r) * Bs = q * y * Bs + r * Bs := Nat.add_mul _ _ _
  omega
theorem guess_break {t u v y z q r : Nat} (hy : 0 < y) (ht : t ≤ y) (hu : u < Bs) (hz : z < Bs) (htop : t * Bs + u = q * y + r) (hr : Bs ≤ r) : q ≤ gss t u v y z := by
  have h1 : t * Bs ≤ y * Bs := Nat.mul_le_mul_right _ ht
  have hq : q < Bs := by
    refine Nat.lt_of_mul_lt_mul_right (a := y) ?_
    rw [Nat.mul_comm Bs y]; omega
  refine guess_up hy htop hq ?_
  have h2 : q * z ≤ Bs * Bs := Nat.mul_le_mul (by omega) (by omega)
  have h3 : Bs * Bs ≤ r * Bs := Nat.mul_le_mul_right _ hr
  omega
theorem guess_start {t u v y z : Nat} (hy : 0 < y) (hv : v < Bs) : gss t u v y z ≤ (t * Bs + u) / y := by
  rw [Nat.le_div_iff_mul_le hy]
  have h1 := gss_mul t u v y z
  have e1 : gss t u v y z * (y * Bs + z) = gss t u v y z * y * Bs + gss t u v y z * z := by rw [Nat.mul_add, Nat.mul_assoc]
  rw [e1] at h1
  refine Nat.le_of_lt_succ (Nat.lt_of_mul_lt_mul_right (a := Bs) ?_)
  rw [Nat.succ_mul]; omega
theorem guess_bound {t u y : Nat} (hy : 0 < y) (ht : t ≤ y) (hu : u < Bs) : (t * Bs + u) / y ≤ Bs + Bs := by
  refine Nat.div_le_of_le_mul ?_
  have h1 : t * Bs ≤ y * Bs := Nat.mul_le_mul_right _ ht
  have h2 : 1 * Bs ≤ y * Bs := Nat.mul_le_mul_right _ hy
  rw [Nat.mul_add]; omega

theorem digit_two (U V V2 T P q u' v' : Nat) (hV : V = V2 * P + v') (hU : U = T * P + u') (hu : u' < P) (h : q * V ≤ U) : q * V2 ≤ T := by
  have h1 : q * (V2 * P) ≤ q * V := Nat.mul_le_mul_left q (by omega)
  have h2 : (q * V2) * P < (T + 1) * P := by
    rw [Nat.mul_assoc, Nat.add_mul]; omega
  have := Nat.lt_of_mul_lt_mul_right h2
  omega
theorem digit_hi (b U V V2 T P q u' v' : Nat) (hV : V = V2 * P + v') (hv : v' < P) (hU : U = T * P + u') (hV2 : b ≤ V2) (hq : q * V2 ≤ T) (hqb : q < b) : q ≤ U / V + 1 := by
  have hP : 0 < P := by omega
  have hVpos : 0 < V := by
    have : 0 < V2 * P := Nat.mul_pos (by omega) hP
    omega
  by_cases h0 : q = 0
  · subst h0; exact Nat.zero_le _
  obtain ⟨p, rfl⟩ : ∃ p, q = p + 1 := ⟨q - 1, by omega⟩
  suffices h : p ≤ U / V by omega
  rw [Nat.le_div_iff_mul_le hVpos]
  have h1 : p * V ≤ p * (V2 * P) + p * P := by
    rw [hV, Nat.mul_add]
    have := Nat.mul_le_mul_left p (Nat.le_of_lt hv)
    omega
  have h2 : p * (V2 * P) + p * P ≤ (p + 1) * V2 * P := by
    have e : (p + 1) * V2 * P = p * (V2 * P) + V2 * P := by rw [Nat.add_mul, Nat.add_mul, Nat.one_mul, Nat.mul_assoc]
    have := Nat.mul_le_mul_right P (show p ≤ V2 by omega)
    omega
  have h3 : (p + 1) * V2 * P ≤ T * P := Nat.mul_le_mul_right P hq
  omega
/-- A list from its lower part and its leading groups. -/
theorem val_two (v : List Nat) (n : Nat) (hn : v.length = n) (h2 : 2 ≤ n) (hv : ∀ x ∈ v, x < Bs) :
    ∃ lo, lo < Bs ^ (n - 2) ∧ val v = (v.getD (n - 1) 0 * Bs + v.getD (n - 2) 0) * Bs ^ (n - 2) + lo := by
  refine ⟨val (v.take (n - 2)), ?_, ?_⟩
  · have := val_lt (v.take (n - 2)) (fun x hx => hv x (List.mem_of_mem_take hx))
    rwa [List.length_take, Nat.min_eq_left (by omega)] at this
  · have e1 := val_take v (n - 2)
    have e2 := val_take v (n - 1)
    rw [show n - 2 + 1 = n - 1 by omega] at e1
    rw [show n - 1 + 1 = n by omega, ← hn, List.take_length, hn] at e2
    rw [e2, e1, show n - 1 = (n - 2) + 1 by omega, Nat.pow_succ]
    generalize v.getD (n - 2 + 1) 0 = y
    generalize v.getD (n - 2) 0 = z
    generalize val (v.take (n - 2)) = lo
    generalize Bs ^ (n - 2) = P
    rw [Nat.add_mul, Nat.mul_comm P z, Nat.mul_comm (P * Bs) y, Nat.mul_comm P Bs, ← Nat.mul_assoc]
    omega
theorem val_three (v : List Nat) (n : Nat) (hn : v.length = n + 1) (h2 : 2 ≤ n) (hv : ∀ x ∈ v, x < Bs) :
    ∃ lo, lo < Bs ^ (n - 2) ∧ val v = ((v.getD n 0 * Bs + v.getD (n - 1) 0) * Bs + v.getD (n - 2) 0) * Bs ^ (n - 2) + lo := by
  have hl : (v.take n).length = n := by simp; omega
  obtain ⟨lo, h3, h4⟩ := val_two (v.take n) n hl h2 (fun x hx => hv x (List.mem_of_mem_take hx))
  refine ⟨lo, h3, ?_⟩
  have e := val_take v n
  rw [← hn, List.take_length] at e
  have g1 : (v.take n).getD (n - 1) 0 = v.getD (n - 1) 0 := by simp only [List.getD]; rw [List.getElem?_take_of_lt (by omega)]
  have g2 : (v.take n).getD (n - 2) 0 = v.getD (n - 2) 0 := by simp only [List.getD]; rw [List.getElem?_take_of_lt (by omega)]
  rw [g1, g2] at h4
  rw [e, h4]
  have hp : Bs ^ n = Bs ^ (n - 2) * Bs * Bs := by rw [← Nat.pow_succ, ← Nat.pow_succ]; congr 1; omega
  rw [hp]
  generalize v.getD n 0 = t
  generalize v.getD (n - 1) 0 = y
  generalize v.getD (n - 2) 0 = z
  generalize Bs ^ (n - 2) = P
  have e1 : P * Bs * Bs * t = t * Bs * Bs * P := by rw [Nat.mul_comm _ t, Nat.mul_comm P Bs, Nat.mul_assoc Bs P Bs, Nat.mul_comm P Bs, ← Nat.mul_assoc, ← Nat.mul_assoc]
  rw [e1]
  simp only [Nat.add_mul]
  omega
/-- The digit: the guess is it, or one more. -/
theorem digit_ok (U v : List Nat) (n : Nat) (hU : U.length = n + 1) (hv : v.length = n) (h2 : 2 ≤ n) (dU : ∀ x ∈ U, x < Bs) (dv : ∀ x ∈ v, x < Bs) (hy : 0 < v.getD (n - 1) 0) (hlt : val U < val v * Bs) :
    (val U / val v ≤ gss (U.getD n 0) (U.getD (n - 1) 0) (U.getD (n - 2) 0) (v.getD (n - 1) 0) (v.getD (n - 2) 0)) ∧
    (gss (U.getD n 0) (U.getD (n - 1) 0) (U.getD (n - 2) 0) (v.getD (n - 1) 0) (v.getD (n - 2) 0) ≤ val U / val v + 1) ∧ U.getD n 0 ≤ v.getD (n - 1) 0 := by
  obtain ⟨l1, b1, e1⟩ := val_three U n hU h2 dU
  obtain ⟨l2, b2, e2⟩ := val_two v n hv h2 dv
  have x1 := getD_lt U (n - 1) dU
  have x2 := getD_lt U (n - 2) dU
  have x3 := getD_lt v (n - 2) dv
  generalize U.getD n 0 = t at *
  generalize U.getD (n - 1) 0 = u at *
  generalize U.getD (n - 2) 0 = w at *
  generalize v.getD (n - 1) 0 = y at *
  generalize v.getD (n - 2) 0 = z at *
  have hV2 : Bs ≤ y * Bs + z := by have := Nat.mul_le_mul_right Bs hy; omega
  have hVpos : 0 < val v := by
    have : 0 < (y * Bs + z) * Bs ^ (n - 2) := Nat.mul_pos (by have := Bs_pos; omega) (Nat.pow_pos Bs_pos)
    omega
  refine ⟨?_, ?_, ?_⟩
  · refine gss_le hy (Nat.div_lt_of_lt_mul hlt) ?_
    exact digit_two (val U) (val v) _ _ (Bs ^ (n - 2)) _ l1 l2 e2 e1 b1 (Nat.div_mul_le_self _ _)
  · exact digit_hi Bs (val U) (val v) _ _ (Bs ^ (n - 2)) _ l1 l2 e2 b2 e1 hV2 (gss_mul t u w y z) (gss_lt t u w y z)
  · refine Nat.le_of_not_lt fun hlt2 => ?_
    have hP : 0 < Bs ^ (n - 2) := Nat.pow_pos Bs_pos
    have h3 : (y * Bs + z + 1) * Bs ≤ t * Bs * Bs := by
      refine Nat.mul_le_mul_right _ ?_
      have := Nat.mul_le_mul_right Bs hlt2
      rw [Nat.succ_mul] at this
      omega
    have h4 : (y * Bs + z + 1) * Bs * Bs ^ (n - 2) ≤ val U := by
      rw [e1]
      have h5 := Nat.mul_le_mul_right (Bs ^ (n - 2)) h3
      simp only [Nat.add_mul] at *
      omega
    have h6 : val v < (y * Bs + z + 1) * Bs ^ (n - 2) := by rw [Nat.add_mul, Nat.one_mul]; omega
    have h7 : val v * Bs < (y * Bs + z + 1) * Bs ^ (n - 2) * Bs := Nat.mul_lt_mul_of_pos_right h6 Bs_pos
    have h8 : (y * Bs + z + 1) * Bs ^ (n - 2) * Bs = (y * Bs + z + 1) * Bs * Bs ^ (n - 2) := by rw [Nat.mul_assoc, Nat.mul_comm (Bs ^ (n - 2)), ← Nat.mul_assoc]
    omega

/-- A list padded with zeros to m places, k of them. -/
def padL (l : List Nat) (k : Nat) : List Nat := (List.range k).map fun i => l.getD i 0
theorem padL_length (l : List Nat) (k : Nat) : (padL l k).length = k := by simp [padL]
theorem padL_succ (l : List Nat) (k : Nat) : padL l (k + 1) = padL l k ++ [l.getD k 0] := by unfold padL; rw [List.range_succ, List.map_append]; rfl
theorem padL_val (l : List Nat) (k : Nat) : val (padL l k) = val (l.take k) := by
  induction k with
  | zero => simp [padL, val]
  | succ k ih => rw [padL_succ, val_snoc, padL_length, ih, val_take]
theorem padL_lt (l : List Nat) (k : Nat) (h : ∀ x ∈ l, x < Bs) : ∀ x ∈ padL l k, x < Bs := by
  intro x hx
  simp only [padL, List.mem_map] at hx
  obtain ⟨i, _, rfl⟩ := hx
  exact getD_lt l i h
theorem high_zero (l : List Nat) (n : Nat) (h : val l < Bs ^ n) : val (l.take n) = val l ∧ val (l.drop n) = 0 := by
  by_cases e : n ≤ l.length
  · have h1 : val l = val (l.take n) + Bs ^ n * val (l.drop n) := by
      conv => lhs; rw [← List.take_append_drop n l]
      rw [val_append, List.length_take, Nat.min_eq_left e]
    rcases Nat.eq_zero_or_pos (val (l.drop n)) with h2 | h2
    · rw [h2] at h1; exact ⟨by omega, h2⟩
    · have := Nat.mul_le_mul_left (Bs ^ n) h2
      omega
  · rw [List.take_of_length_le (by omega), List.drop_of_length_le (by omega)]
    exact ⟨rfl, rfl⟩

/-- Long division: the places from j on are done. -/
def DivAt (u0 u q : List Nat) (V n j : Nat) : Prop :=
  u.length = u0.length ∧ (∀ x ∈ u, x < Bs) ∧ q.length + n = u0.length ∧ (∀ x ∈ q, x < Bs) ∧ u.take j = u0.take j ∧ val (u.drop j) = val (u0.drop j) % V ∧ val (q.drop j) = val (u0.drop j) / V
theorem div_start (u0 : List Nat) (V n : Nat) (hn : n ≤ u0.length) (hd : ∀ x ∈ u0, x < Bs) (h : val (u0.drop (u0.length - n)) < V) : DivAt u0 u0 (List.replicate (u0.length - n) 0) V n (u0.length - n) := by
  refine ⟨rfl, hd, by simp; omega, fun x hx => by have := List.eq_of_mem_replicate hx; subst this; exact Bs_pos, rfl, (Nat.mod_eq_of_lt h).symm, ?_⟩
  rw [List.drop_of_length_le (by simp), Nat.div_eq_of_lt h]; rfl
theorem div_top (u0 : List Nat) (k V : Nat) (hk : k ≤ u0.length) (h : val u0 < Bs ^ k * V) : val (u0.drop k) < V := by
  have h1 : val u0 = val (u0.take k) + Bs ^ k * val (u0.drop k) := by
    conv => lhs; rw [← List.take_append_drop k u0]
    rw [val_append, List.length_take, Nat.min_eq_left hk]
  exact Nat.lt_of_mul_lt_mul_left (a := Bs ^ k) (by omega)
/-- The window of a step. -/
theorem div_window (u0 u q : List Nat) (V n j : Nat) (hj : j + 1 + n ≤ u0.length) (hV : 0 < V) (hVn : V ≤ Bs ^ n) (h : DivAt u0 u q V n (j + 1)) :
    ((u.drop j).take (n + 1)).length = n + 1 ∧ val ((u.drop j).take (n + 1)) = val (u.drop j) ∧ val (u.drop j) < V * Bs ∧ val (u.drop (j + (n + 1))) = 0 ∧
      val (u0.drop j) % V = val (u.drop j) % V ∧ val (u0.drop j) / V = Bs * (val (u0.drop (j + 1)) / V) + val (u.drop j) / V := by
  obtain ⟨h1, h2, h3, h4, h5, h6, h7⟩ := h
  have hlt : val (u.drop (j + 1)) < V := by rw [h6]; exact Nat.mod_lt _ hV
  have hx := getD_lt u j h2
  have hd := val_drop u j (by omega)
  have hd0 := val_drop u0 j (by omega)
  have hg : u.getD j 0 = u0.getD j 0 := by
    have e1 : (u.take (j + 1)).getD j 0 = (u0.take (j + 1)).getD j 0 := by rw [h5]
    simp only [List.getD] at e1 ⊢
    rwa [List.getElem?_take_of_lt (by omega), List.getElem?_take_of_lt (by omega)] at e1
  have hU : val (u.drop j) < V * Bs := by
    have : (val (u.drop (j + 1)) + 1) * Bs ≤ V * Bs := Nat.mul_le_mul_right _ hlt
    rw [Nat.add_mul, Nat.mul_comm _ Bs] at this
    omega
  have hUn : val (u.drop j) < Bs ^ (n + 1) := by
    have : V * Bs ≤ Bs ^ n * Bs := Nat.mul_le_mul_right _ hVn
    rw [Nat.pow_succ]; omega
  have hz := high_zero (u.drop j) (n + 1) hUn
  rw [List.drop_drop] at hz
  refine ⟨by simp; omega, hz.1, hU, hz.2, ?_, ?_⟩
  · rw [hd0, hd, hg, h6]
    have e := Nat.div_add_mod (val (u0.drop (j + 1))) V
    generalize val (u0.drop (j + 1)) = W at *
    generalize u0.getD j 0 = x
    conv => lhs; rw [← e]
    rw [Nat.mul_add, Nat.mul_left_comm, show x + (V * (Bs * (W / V)) + Bs * (W % V)) = V * (Bs * (W / V)) + (x + Bs * (W % V)) by omega, Nat.mul_add_mod]
  · rw [hd0, hd, hg, h6]
    have e := Nat.div_add_mod (val (u0.drop (j + 1))) V
    generalize val (u0.drop (j + 1)) = W at *
    generalize u0.getD j 0 = x
    conv => lhs; rw [← e]
    rw [Nat.mul_add, Nat.mul_left_comm, show x + (V * (Bs * (W / V)) + Bs * (W % V)) = V * (Bs * (W / V)) + (x + Bs * (W % V)) by omega, Nat.mul_add_div hV]
theorem div_step (u0 u q left : List Nat) (V n j : Nat) (hj : j + 1 + n ≤ u0.length) (hV : 0 < V) (hVn : V ≤ Bs ^ n) (h : DivAt u0 u q V n (j + 1)) (hl : Rep left (val (u.drop j) % V)) :
    DivAt u0 (u.take j ++ padL left (n + 1) ++ u.drop (j + (n + 1))) (q.set j (val (u.drop j) / V)) V n j := by
  have hw := div_window u0 u q V n j hj hV hVn h
  obtain ⟨h1, h2, h3, h4, h5, h6, h7⟩ := h
  obtain ⟨w1, w2, w3, w4, w5, w6⟩ := hw
  have hll : left.length ≤ n + 1 := by
    refine Nat.le_of_not_lt fun hlt => ?_
    have hmod : val (u.drop j) % V < Bs ^ n := Nat.lt_of_lt_of_le (Nat.mod_lt _ hV) hVn
    obtain ⟨c, x, rfl⟩ : ∃ c x, left = c ++ [x] := ⟨left.dropLast, left.getLast (by rintro rfl; simp at hlt), (List.dropLast_concat_getLast _).symm⟩
    have hx : x ≠ 0 := by have := hl.2.1; simpa using this
    have h8 := hl.2.2
    rw [val_snoc] at h8
    have h9 : Bs ^ n ≤ Bs ^ c.length := Nat.pow_le_pow_right Bs_pos (by simp at hlt; omega)
    have h10 : Bs ^ c.length * 1 ≤ Bs ^ c.length * x := Nat.mul_le_mul_left _ (by omega)
    omega
  refine ⟨?_, ?_, by simpa using h3, ?_, ?_, ?_, ?_⟩
  · simp [padL_length]; omega
  · intro x hx
    rw [List.mem_append, List.mem_append] at hx
    rcases hx with (hx | hx) | hx
    · exact h2 x (List.mem_of_mem_take hx)
    · exact padL_lt left _ hl.1 x hx
    · exact h2 x (List.mem_of_mem_drop hx)
  · intro x hx
    rcases List.mem_or_eq_of_mem_set hx with hx | hx
    · exact h4 x hx
    · rw [hx]; exact Nat.div_lt_of_lt_mul w3
  · have e : (u.take j).length = j := by simp; omega
    rw [List.append_assoc, List.take_append_of_le_length (by omega), List.take_take, Nat.min_self]
    have : (u.take (j + 1)).take j = (u0.take (j + 1)).take j := by rw [h5]
    rwa [List.take_take, List.take_take, Nat.min_eq_left (by omega)] at this
  · have e : (u.take j).length = j := by simp; omega
    rw [List.append_assoc, List.drop_append, e, Nat.sub_self, List.drop_of_length_le (by omega), List.nil_append, List.drop_zero, val_append, w4, padL_val, List.take_of_length_le hll, hl.2.2, w5]
    omega
  · rw [val_drop _ _ (by simp; omega), getD_set _ _ _ _ (by omega), if_pos rfl, List.drop_set_of_lt (by omega), h7, w6]
    omega
theorem div_end (u0 u q : List Nat) (V n : Nat) (h : DivAt u0 u q V n 0) : val u = val u0 % V ∧ val q = val u0 / V := by
  obtain ⟨_, _, _, _, _, h6, h7⟩ := h
  simpa using And.intro h6 h7
/-- The scale: one group; it keeps the divisor's length. -/
theorem scale_ok {s : Nat} (b : List Nat) (hb : ∀ x ∈ b, x < Bs) (hne : b ≠ []) (hs : s = Bs / (b.getD (b.length - 1) 0 + 1)) : 1 ≤ s ∧ s ≤ Bs ∧ val b * s < Bs ^ b.length := by
  have hl : 0 < b.length := List.length_pos_iff.2 hne
  have hx := getD_lt b (b.length - 1) hb
  have e := val_take b (b.length - 1)
  rw [show b.length - 1 + 1 = b.length by omega, List.take_length] at e
  have h1 := val_lt (b.take (b.length - 1)) (fun x hx => hb x (List.mem_of_mem_take hx))
  rw [List.length_take, Nat.min_eq_left (by omega)] at h1
  generalize b.getD (b.length - 1) 0 = t at *
  have h2 : s * (t + 1) ≤ Bs := by rw [hs]; exact Nat.div_mul_le_self _ _
  have hs1 : 1 ≤ s := by rw [hs, Nat.le_div_iff_mul_le (by omega)]; omega
  refine ⟨hs1, by rw [hs]; exact Nat.div_le_self _ _, ?_⟩
  have h3 : val b < Bs ^ (b.length - 1) * (t + 1) := by rw [e, Nat.mul_add]; omega
  have h4 : val b * s < Bs ^ (b.length - 1) * (t + 1) * s := Nat.mul_lt_mul_of_pos_right h3 hs1
  have h5 : Bs ^ (b.length - 1) * (t + 1) * s ≤ Bs ^ (b.length - 1) * Bs := by
    rw [Nat.mul_assoc, Nat.mul_comm (t + 1)]
    exact Nat.mul_le_mul_left _ h2
  rw [← Nat.pow_succ, show (b.length - 1).succ = b.length by omega] at h5
  omega
theorem unscale (a b s : Nat) (hs : 0 < s) : (a * s) / (b * s) = a / b ∧ (a * s) % (b * s) / s = a % b := by
  constructor
  · rw [Nat.mul_div_mul_right _ _ hs]
  · rw [Nat.mul_mod_mul_right, Nat.mul_div_cancel _ hs]

end Go.Proofs.YtdgmpgejemgbbaaGreatDoor
