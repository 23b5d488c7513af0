/-
  Plain mathematics: products, dates, names. No condition.
-/
import Derived.Test.YtdgmpgejemgbbaaGreatDoorVb
namespace Go.Proofs.YtdgmpgejemgbbaaGreatDoor

/-- The reference's product: digits are summed without carries, then carried. -/
def DTimIn (a b out : List Nat) (i j : Nat) : Prop :=
  out.length = a.length + b.length ∧ dval out = dval (a.take i) * dval b + 10 ^ i * (a.getD i 0 * dval (b.take j)) ∧ (∀ k, out.getD k 0 ≤ 81 * i + if i ≤ k ∧ k < i + j then 81 else 0)
def DTimAt (a b out : List Nat) (i : Nat) : Prop :=
  out.length = a.length + b.length ∧ dval out = dval (a.take i) * dval b ∧ (∀ k, out.getD k 0 ≤ 81 * i)
theorem getD_set' (l : List Nat) (k j d : Nat) (h : k < l.length) : (l.set k d).getD j 0 = if j = k then d else l.getD j 0 := by
  rw [List.getD_eq_getElem?_getD, List.getElem?_set, List.getD_eq_getElem?_getD]
  by_cases e : k = j
  · subst e; simp [h]
  · rw [if_neg e, if_neg (by omega)]
theorem dtim_start (a b : List Nat) : DTimAt a b (List.replicate (a.length + b.length) 0) 0 := by
  have e : ∀ k, (List.replicate (a.length + b.length) 0).getD k 0 = 0 := fun k => by
    rw [List.getD_eq_getElem?_getD, List.getElem?_replicate]; split <;> rfl
  refine ⟨by simp, ?_, fun k => by rw [e]; omega⟩
  have := dval_ext (List.replicate (a.length + b.length) 0) [] (fun j => by rw [e]; simp)
  rw [this]; simp [dval]
theorem dtim_in_start {a b out : List Nat} {i : Nat} (h : DTimAt a b out i) : DTimIn a b out i 0 := by
  refine ⟨h.1, by rw [h.2.1]; simp [dval], fun k => ?_⟩
  have := h.2.2 k; split <;> omega
theorem dtim_step {a b out : List Nat} {i j : Nat} (h : DTimIn a b out i j) (hi : i < a.length) (hj : j < b.length) (da : ∀ x ∈ a, x < 10) (db : ∀ x ∈ b, x < 10) :
    DTimIn a b (out.set (i + j) (out.getD (i + j) 0 + a.getD i 0 * b.getD j 0)) i (j + 1) := by
  obtain ⟨h1, h2, h3⟩ := h
  refine ⟨by simp [h1], ?_, fun k => ?_⟩
  · have hs := dval_set out (i + j) (out.getD (i + j) 0 + a.getD i 0 * b.getD j 0) (by omega)
    have ht := dval_take_succ b j
    rw [ht, Nat.mul_add, Nat.mul_add]
    have e : 10 ^ (i + j) * (a.getD i 0 * b.getD j 0) = 10 ^ i * (a.getD i 0 * (10 ^ j * b.getD j 0)) := by rw [Nat.pow_add]; simp only [Nat.mul_assoc, Nat.mul_left_comm]
    rw [Nat.mul_add, h2, e] at hs
    omega
  · have ea := digD_lt a i da
    have eb := digD_lt b j db
    have em : a.getD i 0 * b.getD j 0 ≤ 9 * 9 := Nat.mul_le_mul (by omega) (by omega)
    have hk := h3 k
    have hk' := h3 (i + j)
    rw [if_neg (by omega)] at hk'
    rw [getD_set' _ _ _ _ (by omega)]
    by_cases e : k = i + j
    · subst e; rw [if_pos rfl, if_pos (by omega)]; omega
    · rw [if_neg e]
      split at hk <;> split <;> omega
theorem dtim_in_end {a b out : List Nat} {i : Nat} (h : DTimIn a b out i b.length) : DTimAt a b out (i + 1) := by
  obtain ⟨h1, h2, h3⟩ := h
  refine ⟨h1, ?_, fun k => ?_⟩
  · rw [h2, List.take_length, dval_take_succ, Nat.add_mul, Nat.mul_assoc]
  · have := h3 k; split at this <;> omega
theorem dtim_end {a b out : List Nat} (h : DTimAt a b out a.length) : out.length = a.length + b.length ∧ dval out = dval a * dval b ∧ ∀ k, out.getD k 0 ≤ 81 * a.length := by
  obtain ⟨h1, h2, h3⟩ := h
  rw [List.take_length] at h2
  exact ⟨h1, h2, h3⟩
/-- The carries: the places below i are digits. -/
def DCarAt (n V : Nat) (out : List Nat) (i : Nat) : Prop :=
  dval out = V ∧ (∀ k, k < i → out.getD k 0 < 10) ∧ (∀ k, i ≤ k → out.getD k 0 ≤ 81 * n + if k = i then 9 * n + 1 else 0)
theorem dcar_start {n V : Nat} {out : List Nat} (h : dval out = V) (h1 : ∀ k, out.getD k 0 ≤ 81 * n) : DCarAt n V out 0 :=
  ⟨h, fun k hk => by omega, fun k _ => by have := h1 k; omega⟩
theorem dcar_step {n V : Nat} {out : List Nat} {i : Nat} (h : DCarAt n V out i) (hi : i + 1 < out.length) :
    DCarAt n V ((out.set (i + 1) (out.getD (i + 1) 0 + out.getD i 0 / 10)).set i (out.getD i 0 % 10)) (i + 1) := by
  obtain ⟨h1, h2, h3⟩ := h
  refine ⟨?_, fun k hk => ?_, fun k hk => ?_⟩
  · have a := dval_set out (i + 1) (out.getD (i + 1) 0 + out.getD i 0 / 10) hi
    have b := dval_set (out.set (i + 1) (out.getD (i + 1) 0 + out.getD i 0 / 10)) i (out.getD i 0 % 10) (by simp; omega)
    rw [getD_set' _ _ _ _ hi, if_neg (by omega)] at b
    rw [Nat.mul_add, Nat.pow_succ] at a
    have e : 10 ^ i * out.getD i 0 = 10 ^ i * 10 * (out.getD i 0 / 10) + 10 ^ i * (out.getD i 0 % 10) := by
      rw [Nat.mul_assoc, ← Nat.mul_add, Nat.div_add_mod]
    omega
  · rw [getD_set' _ _ _ _ (by simp; omega), getD_set' _ _ _ _ hi]
    by_cases e : k = i
    · rw [if_pos e]; omega
    · rw [if_neg e, if_neg (by omega)]; exact h2 k (by omega)
  · rw [getD_set' _ _ _ _ (by simp; omega), getD_set' _ _ _ _ hi, if_neg (by omega)]
    have a := h3 i (by omega)
    have b := h3 k (by omega)
    rw [if_neg (by omega)] at b
    rw [if_pos rfl] at a
    by_cases e : k = i + 1
    · subst e
      rw [if_pos rfl, if_pos rfl]; omega
    · rw [if_neg e, if_neg e]; exact b
theorem dcar_end {n V : Nat} {out : List Nat} (h : DCarAt n V out (out.length - 1)) (hV : V < 10 ^ out.length) : ∀ x ∈ out, x < 10 := by
  obtain ⟨h1, h2, h3⟩ := h
  have key : ∀ k, out.getD k 0 < 10 := by
    intro k
    by_cases hk : k < out.length - 1
    · exact h2 k hk
    · by_cases hk2 : k < out.length
      · have e : k = out.length - 1 := by omega
        subst e
        have a := dval_split out (out.length - 1)
        have b := dval_drop out (out.length - 1)
        have c : out.length = out.length - 1 + 1 := by omega
        have d : dval (out.drop (out.length - 1 + 1)) = 0 := by rw [List.drop_of_length_le (by omega)]; rfl
        rw [d] at b
        rw [b, h1] at a
        rw [c, Nat.pow_succ] at hV
        simp only [Nat.mul_zero, Nat.add_zero] at a
        rcases Nat.lt_or_ge (out.getD (out.length - 1) 0) 10 with h | h
        · exact h
        · have := Nat.mul_le_mul_left (10 ^ (out.length - 1)) h
          omega
      · rw [List.getD_eq_getElem?_getD, List.getElem?_eq_none (by omega)]; simp
  intro x hx
  obtain ⟨k, hk, rfl⟩ := List.getElem_of_mem hx
  have := key k
  rwa [List.getD_eq_getElem?_getD, List.getElem?_eq_getElem hk] at this
/-- Leap years, months, days: plain. -/
def leapB (y : Nat) : Bool := decide (y % 4 = 0 ∧ (y % 100 ≠ 0 ∨ y % 400 = 0))
def longN (y m : Nat) : Nat := if m = 4 ∨ m = 6 ∨ m = 9 ∨ m = 11 then 30 else if m = 2 then (if leapB y = true then 29 else 28) else 31
theorem longN_ge (y m : Nat) : 28 ≤ longN y m := by unfold longN; split <;> (try split) <;> (try split) <;> omega
theorem longN_le (y m : Nat) : longN y m ≤ 31 := by unfold longN; split <;> (try split) <;> (try split) <;> omega
/-- The day on which a year begins. -/
def leapsN (y : Nat) : Nat := y / 4 - y / 100 + y / 400
def yd (y : Nat) : Nat := 365 * (y - 1900) + (leapsN (y - 1) - 460)
theorem leaps_succ (y : Nat) : leapsN (y + 1) = leapsN y + if leapB (y + 1) = true then 1 else 0 := by
  unfold leapsN leapB
  simp only [decide_eq_true_eq]
  split <;> omega
theorem leaps_ge {y : Nat} (_h : 1899 ≤ y) : 460 ≤ leapsN y := by
  induction y with
  | zero => omega
  | succ y ih =>
    rcases Nat.lt_or_ge y 1899 with h' | h'
    · have : y = 1898 := by omega
      subst this; decide
    · have := ih h'; have := leaps_succ y; omega
theorem yd_start : yd 1900 = 0 := by decide
theorem yd_succ {y : Nat} (h : 1900 ≤ y) : yd (y + 1) = yd y + 365 + if leapB y = true then 1 else 0 := by
  obtain ⟨k, rfl⟩ : ∃ k, y = k + 1 := ⟨y - 1, by omega⟩
  have := leaps_ge (y := k) (by omega)
  unfold yd
  simp only [Nat.add_sub_cancel]
  rw [leaps_succ k]
  split <;> omega
theorem yd_ge {y : Nat} (_h : 1900 ≤ y) : 365 * (y - 1900) ≤ yd y := by unfold yd; omega
theorem yd_le (k : Nat) : yd (1900 + k) ≤ 366 * k := by
  induction k with
  | zero => decide
  | succ k ih =>
    have := yd_succ (y := 1900 + k) (by omega)
    rw [show 1900 + (k + 1) = 1900 + k + 1 by omega, this]
    split <;> omega
theorem yd_mono {a b : Nat} (h : 1900 ≤ a) (hab : a ≤ b) : yd a ≤ yd b := by
  induction b with
  | zero => omega
  | succ b ih =>
    rcases Nat.lt_or_ge b a with h' | h'
    · have : a = b + 1 := by omega
      subst this; exact Nat.le_refl _
    · have := ih h'; have := yd_succ (y := b) (by omega); omega
/-- The days of the first so many months. -/
def mdR (y : Nat) : Nat → Nat
  | 0 => 0
  | m + 1 => mdR y m + longN y (m + 1)
theorem mdR_mono (y : Nat) {a b : Nat} (h : a ≤ b) : mdR y a ≤ mdR y b := by
  induction b with
  | zero => have : a = 0 := by omega
            subst this; exact Nat.le_refl _
  | succ b ih =>
    rcases Nat.lt_or_ge b a with h' | h'
    · have : a = b + 1 := by omega
      subst this; exact Nat.le_refl _
    · have := ih h'; show _ ≤ mdR y b + _; omega
theorem mdR_12 (y : Nat) : mdR y 12 = 365 + if leapB y = true then 1 else 0 := by
  have e : ∀ m, longN y m = if m = 4 ∨ m = 6 ∨ m = 9 ∨ m = 11 then 30 else if m = 2 then (if leapB y = true then 29 else 28) else 31 := fun m => rfl
  simp only [mdR]
  simp only [e]
  cases leapB y <;> simp
theorem yd_year {y : Nat} (h : 1900 ≤ y) : yd (y + 1) = yd y + mdR y 12 := by rw [yd_succ h, mdR_12]; omega
/-- The date of a day. -/
def DateIs (day y m d : Nat) : Prop := 1900 ≤ y ∧ 1 ≤ m ∧ m ≤ 12 ∧ 1 ≤ d ∧ d ≤ longN y m ∧ yd y + mdR y (m - 1) + d = day + 1
theorem DateIs.lt {day y m d : Nat} (h : DateIs day y m d) : yd y ≤ day ∧ day < yd (y + 1) := by
  obtain ⟨h1, h2, h3, h4, h5, h6⟩ := h
  obtain ⟨k, rfl⟩ : ∃ k, m = k + 1 := ⟨m - 1, by omega⟩
  have a := mdR_mono y (a := k + 1) (b := 12) h3
  rw [yd_year h1]
  simp only [Nat.add_sub_cancel] at h6
  change mdR y k + longN y (k + 1) ≤ _ at a
  omega
theorem DateIs.unique {day y m d y' m' d' : Nat} (h : DateIs day y m d) (h' : DateIs day y' m' d') : y = y' ∧ m = m' ∧ d = d' := by
  have a := h.lt
  have b := h'.lt
  have ey : y = y' := by
    rcases Nat.lt_trichotomy y y' with e | e | e
    · have := yd_mono (a := y + 1) (b := y') (by have := h.1; omega) (by omega); omega
    · exact e
    · have := yd_mono (a := y' + 1) (b := y) (by have := h'.1; omega) (by omega); omega
  subst ey
  obtain ⟨h1, h2, h3, h4, h5, h6⟩ := h
  obtain ⟨g1, g2, g3, g4, g5, g6⟩ := h'
  obtain ⟨k, rfl⟩ : ∃ k, m = k + 1 := ⟨m - 1, by omega⟩
  obtain ⟨j, rfl⟩ : ∃ j, m' = j + 1 := ⟨m' - 1, by omega⟩
  simp only [Nat.add_sub_cancel] at h6 g6
  have em : k = j := by
    rcases Nat.lt_trichotomy k j with e | e | e
    · have := mdR_mono y (a := k + 1) (b := j) (by omega)
      change mdR y k + longN y (k + 1) ≤ _ at this; omega
    · exact e
    · have := mdR_mono y (a := j + 1) (b := k) (by omega)
      change mdR y j + longN y (j + 1) ≤ _ at this; omega
  subst em
  exact ⟨rfl, rfl, by omega⟩
/-- The program's loops. -/
theorem prog_year_start (day : Nat) : yd (1900 + day / 366) ≤ day := by have := yd_le (day / 366); omega
/-- After the years: a month m with d days left. -/
def MonAt (day y m d : Nat) : Prop := 1900 ≤ y ∧ 1 ≤ m ∧ m ≤ 12 ∧ 1 ≤ d ∧ yd y + mdR y (m - 1) + d = day + 1 ∧ day < yd (y + 1)
theorem mon_start {day y : Nat} (h : 1900 ≤ y) (h1 : yd y ≤ day) (h2 : day < yd (y + 1)) : MonAt day y 1 (day - yd y + 1) := ⟨h, by omega, by omega, by omega, by show yd y + 0 + _ = _; omega, h2⟩
theorem mon_step {day y m d : Nat} (h : MonAt day y m d) (hd : longN y m < d) : MonAt day y (m + 1) (d - longN y m) ∧ m < 12 := by
  obtain ⟨h1, h2, h3, h4, h5, h6⟩ := h
  obtain ⟨k, rfl⟩ : ∃ k, m = k + 1 := ⟨m - 1, by omega⟩
  simp only [Nat.add_sub_cancel] at h5
  have hm : k + 1 < 12 := by
    rcases Nat.lt_or_ge (k + 1) 12 with h | h
    · exact h
    · have : k = 11 := by omega
      subst this
      have e : mdR y 12 = mdR y 11 + longN y 12 := rfl
      have hd' : longN y 12 < d := hd
      rw [yd_year h1] at h6; omega
  refine ⟨⟨h1, by omega, by omega, by omega, ?_, h6⟩, hm⟩
  show yd y + (mdR y k + longN y (k + 1)) + _ = _
  omega
theorem mon_end {day y m d : Nat} (h : MonAt day y m d) (hd : d ≤ longN y m) : DateIs day y m d := ⟨h.1, h.2.1, h.2.2.1, h.2.2.2.1, hd, h.2.2.2.2.1⟩
/-- The reference's loop. -/
def RefAt (day y m r : Nat) : Prop := 1900 ≤ y ∧ 1 ≤ m ∧ m ≤ 12 ∧ yd y + mdR y (m - 1) + r = day
theorem ref_start (day : Nat) : RefAt day 1900 1 day := ⟨by omega, by omega, by omega, by rw [yd_start]; show 0 + 0 + day = _; omega⟩
theorem ref_month {day y m r : Nat} (h : RefAt day y m r) (hr : longN y m ≤ r) (hm : m < 12) : RefAt day y (m + 1) (r - longN y m) := by
  obtain ⟨h1, h2, h3, h4⟩ := h
  obtain ⟨k, rfl⟩ : ∃ k, m = k + 1 := ⟨m - 1, by omega⟩
  simp only [Nat.add_sub_cancel] at h4
  refine ⟨h1, by omega, by omega, ?_⟩
  show yd y + (mdR y k + longN y (k + 1)) + _ = _
  omega
theorem ref_year {day y r : Nat} (h : RefAt day y 12 r) (hr : longN y 12 ≤ r) : RefAt day (y + 1) 1 (r - longN y 12) := by
  obtain ⟨h1, h2, h3, h4⟩ := h
  have e : mdR y 12 = mdR y 11 + longN y 12 := rfl
  refine ⟨by omega, by omega, by omega, ?_⟩
  rw [yd_year h1]
  show _ + 0 + _ = _
  simp only [show 12 - 1 = 11 from rfl] at h4
  omega
theorem ref_end {day y m r : Nat} (h : RefAt day y m r) (hr : r < longN y m) : DateIs day y m (r + 1) := ⟨h.1, h.2.1, h.2.2.1, by omega, by omega, by have := h.2.2.2; omega⟩
theorem RefAt.small {day y m r : Nat} (h : RefAt day y m r) (hd : day ≤ 99999) : y ≤ 2174 ∧ r ≤ day := by
  obtain ⟨h1, h2, h3, h4⟩ := h
  have := yd_ge h1
  omega
theorem DateIs.small {day y m d : Nat} (h : DateIs day y m d) (hd : day ≤ 99999) : y ≤ 2174 ∧ d ≤ 31 := by
  have a := yd_ge h.1
  have b := h.lt
  have c := longN_le y m
  have e := h.2.2.2.2.1
  omega
/-- The date that a day has. -/
theorem date_exists (day : Nat) : ∃ y m d, DateIs day y m d := by
  have key : ∀ r, ∀ y m, RefAt day y m r → ∃ y m d, DateIs day y m d := by
    intro r
    induction r using Nat.strongRecOn with
    | _ r ih =>
      intro y m h
      by_cases hr : r < longN y m
      · exact ⟨y, m, r + 1, ref_end h hr⟩
      · have hg := longN_ge y m
        by_cases hm : m < 12
        · exact ih _ (by omega) _ _ (ref_month h (by omega) hm)
        · have : m = 12 := by have := h.2.2.1; omega
          subst this
          exact ih _ (by omega) _ _ (ref_year h (by omega))
  exact key day 1900 1 (ref_start day)
/-- A number in so many digits, the first one first. -/
def figB (n : Nat) : Nat → List UInt8
  | 0 => []
  | k + 1 => figB (n / 10) k ++ [UInt8.ofNat (48 + n % 10)]
theorem figB_len (n k : Nat) : (figB n k).length = k := by
  induction k generalizing n with
  | zero => rfl
  | succ k ih => simp [figB, ih]
/-- The loop that goes from the back. -/
def FigAt (n many : Nat) (s : List UInt8) (i m : Nat) : Prop := i ≤ many ∧ figB n many = figB m (many - i) ++ s
theorem fig_start (n many : Nat) : FigAt n many [] 0 n := ⟨by omega, by simp⟩
theorem fig_step {n many : Nat} {s : List UInt8} {i m : Nat} (h : FigAt n many s i m) (hi : i < many) : FigAt n many (UInt8.ofNat (48 + m % 10) :: s) (i + 1) (m / 10) := by
  obtain ⟨h1, h2⟩ := h
  refine ⟨hi, ?_⟩
  rw [h2]
  obtain ⟨k, hk⟩ : ∃ k, many - i = k + 1 := ⟨many - i - 1, by omega⟩
  rw [hk, show many - (i + 1) = k by omega, figB]
  simp
theorem fig_end {n many : Nat} {s : List UInt8} {m : Nat} (h : FigAt n many s many m) : s = figB n many := by
  rw [h.2]; simp [figB]
/-- The text of a date. -/
def dateB (y m d : Nat) : List UInt8 := figB y 4 ++ [45] ++ figB m 2 ++ [45] ++ figB d 2
theorem dateB_len (y m d : Nat) : (dateB y m d).length = 10 := by simp [dateB, figB_len]
/-- Names. -/
def letB (c : UInt8) : Bool := decide ((97 ≤ c.toNat ∧ c.toNat ≤ 122) ∨ (65 ≤ c.toNat ∧ c.toNat ≤ 90))
def othB (c : UInt8) : Bool := decide ((48 ≤ c.toNat ∧ c.toNat ≤ 57) ∨ c.toNat = 95 ∨ c.toNat = 45)
def nmB (l : List UInt8) : Bool := decide (1 ≤ l.length ∧ l.length ≤ 40) && (match l.head? with | some c => letB c | none => false) && l.all fun c => letB c || othB c
theorem nmB_len {l : List UInt8} (h : l.length < 1 ∨ 40 < l.length) : nmB l = false := by
  unfold nmB
  rw [show decide (1 ≤ l.length ∧ l.length ≤ 40) = false by simp; omega]; rfl
theorem nmB_head {l : List UInt8} {c : UInt8} (h : l.head? = some c) (hc : letB c = false) : nmB l = false := by
  unfold nmB; rw [h]; simp [hc]
theorem nmB_bad {l : List UInt8} {c : UInt8} (h : c ∈ l) (h1 : letB c = false) (h2 : othB c = false) : nmB l = false := by
  unfold nmB
  have : (l.all fun c => letB c || othB c) = false := by
    rw [List.all_eq_false]; exact ⟨c, h, by simp [h1, h2]⟩
  rw [this]; simp
theorem nmB_ok {l : List UInt8} {c : UInt8} (h1 : 1 ≤ l.length) (h2 : l.length ≤ 40) (h : l.head? = some c) (hc : letB c = true) (ha : ∀ x ∈ l, (letB x || othB x) = true) : nmB l = true := by
  unfold nmB; rw [h]; simp only [hc, Bool.and_true, Bool.and_eq_true, decide_eq_true_eq, List.all_eq_true]
  exact ⟨⟨h1, h2⟩, ha⟩
theorem letB_lo {c : UInt8} (h : c.toNat < 65) : letB c = false := by unfold letB; simp; omega
theorem letB_cap {c : UInt8} (h : 65 ≤ c.toNat) (h2 : c.toNat ≤ 90) : letB c = true := by unfold letB; simp; omega
theorem letB_mid {c : UInt8} (h : 90 < c.toNat) (h2 : c.toNat < 97) : letB c = false := by unfold letB; simp; omega
theorem letB_small {c : UInt8} (h : 97 ≤ c.toNat) (h2 : c.toNat ≤ 122) : letB c = true := by unfold letB; simp; omega
theorem letB_hi {c : UInt8} (h : 122 < c.toNat) : letB c = false := by unfold letB; simp; omega

end Go.Proofs.YtdgmpgejemgbbaaGreatDoor
